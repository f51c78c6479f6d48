import Derived.Test.Qxb6500470aVm1
namespace Go.Proofs.Qxb6500470a
open Go.RowKit
/-- How a value's text is asked for in the model. -/
def TextC (x : TV) : Prop := ∀ (K : Nat → Prop) (w : World) (c0 c1 c2 c3 : Value), MR K w x c0 c1 c2 c3 → (∀ k, K k → k < w.heap.size) → (text x).length ≤ 1000 → Calls Try.prog 98 #[.agg #[c0, c1, c2, c3]] w fun e w' => e = .returned (S (text x)) ∧ Below w.heap.size w w'
theorem RowK.slice {K : Nat → Prop} {w : World} {k : Value} {n : Nat} {cs : List Value} (h : RowK K w k n cs) : ∃ a cap, k = .slice a n cap := by
  rcases h.1.2 with ⟨e, rfl⟩ | ⟨g, c, cur, hv, -⟩
  · exact ⟨none, 0, e⟩
  · exact ⟨_, c, hv⟩
set_option maxHeartbeats 1000000 in
theorem text_int (n : Int) (n1 : -9223372036854775808 ≤ n) (n2 : n ≤ 9223372036854775807) (w : World) : Calls Try.prog 98 #[.agg #[I 1, I n, S [], .slice none 0 0]] w fun e w' => e = .returned (S (itoa n)) ∧ Below w.heap.size w w' := by
  have b1 := (Below.refl w.heap.size w).alloc (Nat.le_refl _) (.cells #[I 1, I n, S [], .slice none 0 0] 137)
  go_enter Try.func98, Try.ntmps98
  go_wp2_with fail
  refine (itoa_any n n1 n2 _).mono ?_
  rintro e w1 ⟨rfl, b2⟩
  go_wp2
  go_ret
  exact ⟨rfl, b1.trans (b2.mono b1.size)⟩
set_option maxHeartbeats 1000000 in
theorem text_str (s : List UInt8) (hs : s.length ≤ 1000) (w : World) : Calls Try.prog 98 #[.agg #[I 2, I 0, S s, .slice none 0 0]] w fun e w' => e = .returned (S (itoa s.length ++ [58] ++ s)) ∧ Below w.heap.size w w' := by
  have b1 := (Below.refl w.heap.size w).alloc (Nat.le_refl _) (.cells #[I 2, I 0, S s, .slice none 0 0] 137)
  have TO : Blk (w.alloc (.cells #[I 2, I 0, S s, .slice none 0 0] 137)) w.heap.size #[I 2, I 0, S s, .slice none 0 0] 137 := Blk.new rfl
  have hz := str_size s
  have hl := itoa_len (s.length : Int) (by omega) (by omega)
  rw [← str_size] at hl
  go_enter Try.func98, Try.ntmps98
  go_wp2_with fail
  refine (itoa_any (s.length : Int) (by omega) (by omega) _).mono ?_
  rintro e w1 ⟨rfl, b2⟩
  have TO2 := TO.below b2 TO.lt
  have c2 := TO2.cell 2
  go_wp2
  go_ret
  refine ⟨?_, b1.trans (b2.mono b1.size)⟩
  show Ending.returned (.string (str (itoa s.length) ++ str [58] ++ str s)) = _
  rw [str_append, str_append]
set_option maxRecDepth 100000 in
set_option maxHeartbeats 4000000 in
theorem text_k3 (xs : List TV) (ih : ∀ y ∈ xs, TextC y) (K : Nat → Prop) (w : World) (c3 : Value) (cs : List Value) (hk : MRs K w xs cs) (hr : RowK K w c3 xs.length cs) (ks : ∀ k, K k → k < w.heap.size) (hlen : (joinT xs).length ≤ 998) (hxl : xs.length ≤ 1000) :
    Calls Try.prog 98 #[.agg #[I 3, I 0, S [], c3]] w fun e w' => e = .returned (S ([91] ++ joinT xs ++ [93])) ∧ Below w.heap.size w w' := by
  obtain ⟨a, cap, rfl⟩ := hr.slice
  have b1 := (Below.refl w.heap.size w).alloc (Nat.le_refl _) (.cells #[I 3, I 0, S [], .slice a xs.length cap] 137)
  have TO : Blk (w.alloc (.cells #[I 3, I 0, S [], .slice a xs.length cap] 137)) w.heap.size #[I 3, I 0, S [], .slice a xs.length cap] 137 := Blk.new rfl
  have HIH : Hid _ := ih
  have HK : Hid _ := hk
  have HR : Hid (RowK K w (.slice a xs.length cap) xs.length cs) := hr
  have HLEN : Hid _ := hlen
  clear ih hk hr hlen
  go_enter Try.func98, Try.ntmps98
  go_wp2
  go_loopw [4, 5, 6] (fun t i _ wr => ∃ k : Nat, k ≤ xs.length ∧ t = S (joinT (xs.take k)) ∧ i = I (k : Int) ∧ Blk wr w.heap.size #[I 3, I 0, S [], .slice a xs.length cap] 137 ∧ Below w.heap.size w wr) (fun _ i _ _ => (xs.length - intOf i).toNat)
  case atStart => exact ⟨0, by omega, rfl, rfl, TO, b1⟩
  case round =>
    clear TO b1
    obtain ⟨k, hkl, rfl, rfl, TO, b1⟩ := hrel
    have d0 := TO.cell 0
    have d3 := TO.cell 3
    have hj1 := joinT_take xs k
    have hj2 := HLEN.out
    have hsz := str_size (joinT (xs.take k))
    by_cases hlt : k < xs.length
    · have q1 : (k : Int) < (xs.length : Int) := by omega
      have kk : Kept K w wr := Kept.of_below b1 ks
      have ks' : ∀ k, K k → k < wr.heap.size := fun k hk => Nat.lt_of_lt_of_le (ks k hk) b1.size
      obtain ⟨g, cap', c0, c1, c2, c3, e, kg, hl, hle, h0, h1, h2, h3, hm⟩ := (HR.out.kept kk (fun _ h => h)).elem (HK.out.kept kk) k hlt
      simp only [Value.slice.injEq, true_and] at e
      obtain ⟨rfl, rfl⟩ := e
      have hmem : xs[k] ∈ xs := List.getElem_mem hlt
      have hjm := joinT_mem xs _ hmem
      have T := HIH.out _ hmem K wr c0 c1 c2 c3 hm ks' (by omega)
      have HJ : Hid _ := joinT_succ xs k hlt
      have hsz2 := str_size (text xs[k])
      have hjl := congrArg List.length HJ.out
      rw [List.length_append, List.length_append] at hjl
      have hj3 := joinT_take xs (k + 1)
      generalize text xs[k] = tx at *
      clear hm HK HR hmem
      go_wp2_with fail
      refine T.mono ?_
      rintro e w2 ⟨rfl, b2⟩
      have TO2 := TO.below b2 TO.lt
      have b3 := b1.trans (b2.mono b1.size)
      by_cases hk0 : 0 < k
      · have q2 : (0 : Int) < (k : Int) := by omega
        rw [if_pos hk0] at hjl
        have HJ2 : Hid (joinT (xs.take (k + 1)) = joinT (xs.take k) ++ ([32] ++ tx)) := by have := HJ.out; rw [if_pos hk0] at this; exact this
        have hj4 : (joinT (xs.take k)).length + (1 + tx.length) ≤ 998 := by simp at hjl; omega
        clear HJ
        generalize joinT (xs.take k) = jk at *
        go_wp2
        go_roundw
        case rel =>
          refine ⟨k + 1, by omega, ?_, by go_num, TO2, b3⟩
          rw [HJ2.out]
          show Value.string (str jk ++ str [32] ++ str tx) = .string (str (jk ++ ([32] ++ tx)))
          rw [str_append, str_append, List.append_assoc]
        case measure => simp [intOf]; omega
      · have q2 : ¬ (0 : Int) < (k : Int) := by omega
        rw [if_neg hk0] at hjl
        have HJ2 : Hid (joinT (xs.take (k + 1)) = joinT (xs.take k) ++ tx) := by have := HJ.out; rw [if_neg hk0, List.nil_append] at this; exact this
        have hj4 : (joinT (xs.take k)).length + tx.length ≤ 998 := by simp at hjl; omega
        clear HJ
        generalize joinT (xs.take k) = jk at *
        go_wp2
        go_roundw
        case rel =>
          refine ⟨k + 1, by omega, ?_, by go_num, TO2, b3⟩
          rw [HJ2.out]
          show Value.string (str jk ++ str tx) = .string (str (jk ++ tx))
          rw [str_append]
        case measure => simp [intOf]; omega
    · have q1 : ¬ (k : Int) < (xs.length : Int) := by omega
      have ek : xs.take k = xs := List.take_of_length_le (by omega)
      rw [ek] at hsz hj1 ⊢
      go_wp2
      go_ret
      refine ⟨?_, b1⟩
      show Ending.returned (.string (str [91] ++ str (joinT xs) ++ str [93])) = _
      rw [str_append, str_append]
      simp
set_option maxRecDepth 100000 in
set_option maxHeartbeats 4000000 in
theorem text_k4 (xs : List TV) (ih : ∀ y ∈ xs, TextC y) (K : Nat → Prop) (w : World) (c3 : Value) (cs : List Value) (hk : MRs K w xs cs) (hr : RowK K w c3 xs.length cs) (ks : ∀ k, K k → k < w.heap.size) (hlen : (joinT xs).length ≤ 998) (hxl : xs.length ≤ 1000) :
    Calls Try.prog 98 #[.agg #[I 4, I 0, S [], c3]] w fun e w' => e = .returned (S ([60] ++ joinT xs ++ [62])) ∧ Below w.heap.size w w' := by
  obtain ⟨a, cap, rfl⟩ := hr.slice
  have b1 := (Below.refl w.heap.size w).alloc (Nat.le_refl _) (.cells #[I 4, I 0, S [], .slice a xs.length cap] 137)
  have TO : Blk (w.alloc (.cells #[I 4, I 0, S [], .slice a xs.length cap] 137)) w.heap.size #[I 4, I 0, S [], .slice a xs.length cap] 137 := Blk.new rfl
  have HIH : Hid _ := ih
  have HK : Hid _ := hk
  have HR : Hid (RowK K w (.slice a xs.length cap) xs.length cs) := hr
  have HLEN : Hid _ := hlen
  clear ih hk hr hlen
  go_enter Try.func98, Try.ntmps98
  go_wp2
  go_loopw [4, 5, 6] (fun t i _ wr => ∃ k : Nat, k ≤ xs.length ∧ t = S (joinT (xs.take k)) ∧ i = I (k : Int) ∧ Blk wr w.heap.size #[I 4, I 0, S [], .slice a xs.length cap] 137 ∧ Below w.heap.size w wr) (fun _ i _ _ => (xs.length - intOf i).toNat)
  case atStart => exact ⟨0, by omega, rfl, rfl, TO, b1⟩
  case round =>
    clear TO b1
    obtain ⟨k, hkl, rfl, rfl, TO, b1⟩ := hrel
    have d0 := TO.cell 0
    have d3 := TO.cell 3
    have hj1 := joinT_take xs k
    have hj2 := HLEN.out
    have hsz := str_size (joinT (xs.take k))
    by_cases hlt : k < xs.length
    · have q1 : (k : Int) < (xs.length : Int) := by omega
      have kk : Kept K w wr := Kept.of_below b1 ks
      have ks' : ∀ k, K k → k < wr.heap.size := fun k hk => Nat.lt_of_lt_of_le (ks k hk) b1.size
      obtain ⟨g, cap', c0, c1, c2, c3, e, kg, hl, hle, h0, h1, h2, h3, hm⟩ := (HR.out.kept kk (fun _ h => h)).elem (HK.out.kept kk) k hlt
      simp only [Value.slice.injEq, true_and] at e
      obtain ⟨rfl, rfl⟩ := e
      have hmem : xs[k] ∈ xs := List.getElem_mem hlt
      have hjm := joinT_mem xs _ hmem
      have T := HIH.out _ hmem K wr c0 c1 c2 c3 hm ks' (by omega)
      have HJ : Hid _ := joinT_succ xs k hlt
      have hsz2 := str_size (text xs[k])
      have hjl := congrArg List.length HJ.out
      rw [List.length_append, List.length_append] at hjl
      have hj3 := joinT_take xs (k + 1)
      generalize text xs[k] = tx at *
      clear hm HK HR hmem
      go_wp2_with fail
      refine T.mono ?_
      rintro e w2 ⟨rfl, b2⟩
      have TO2 := TO.below b2 TO.lt
      have b3 := b1.trans (b2.mono b1.size)
      by_cases hk0 : 0 < k
      · have q2 : (0 : Int) < (k : Int) := by omega
        rw [if_pos hk0] at hjl
        have HJ2 : Hid (joinT (xs.take (k + 1)) = joinT (xs.take k) ++ ([32] ++ tx)) := by have := HJ.out; rw [if_pos hk0] at this; exact this
        have hj4 : (joinT (xs.take k)).length + (1 + tx.length) ≤ 998 := by simp at hjl; omega
        clear HJ
        generalize joinT (xs.take k) = jk at *
        go_wp2
        go_roundw
        case rel =>
          refine ⟨k + 1, by omega, ?_, by go_num, TO2, b3⟩
          rw [HJ2.out]
          show Value.string (str jk ++ str [32] ++ str tx) = .string (str (jk ++ ([32] ++ tx)))
          rw [str_append, str_append, List.append_assoc]
        case measure => simp [intOf]; omega
      · have q2 : ¬ (0 : Int) < (k : Int) := by omega
        rw [if_neg hk0] at hjl
        have HJ2 : Hid (joinT (xs.take (k + 1)) = joinT (xs.take k) ++ tx) := by have := HJ.out; rw [if_neg hk0, List.nil_append] at this; exact this
        have hj4 : (joinT (xs.take k)).length + tx.length ≤ 998 := by simp at hjl; omega
        clear HJ
        generalize joinT (xs.take k) = jk at *
        go_wp2
        go_roundw
        case rel =>
          refine ⟨k + 1, by omega, ?_, by go_num, TO2, b3⟩
          rw [HJ2.out]
          show Value.string (str jk ++ str tx) = .string (str (jk ++ tx))
          rw [str_append]
        case measure => simp [intOf]; omega
    · have q1 : ¬ (k : Int) < (xs.length : Int) := by omega
      have ek : xs.take k = xs := List.take_of_length_le (by omega)
      rw [ek] at hsz hj1 ⊢
      go_wp2
      go_ret
      refine ⟨?_, b1⟩
      show Ending.returned (.string (str [60] ++ str (joinT xs) ++ str [62])) = _
      rw [str_append, str_append]
      simp
theorem textM : ∀ (n : Nat) (x : TV), sz x ≤ n → TextC x := by
  intro n
  induction n with
  | zero => intro x hx; cases x <;> simp [sz] at hx <;> omega
  | succ n ihn =>
    intro x hx K w c0 c1 c2 c3 hm ks hlen
    obtain ⟨rfl, rfl, rfl, hb, h0, cs, hk, hr⟩ := hm.open
    cases x with
    | int m =>
      obtain rfl := h0 rfl
      exact text_int m hb.1 hb.2 w
    | str s =>
      obtain rfl := h0 rfl
      have : (itoa s.length ++ [58] ++ s).length ≤ 1000 := hlen
      exact text_str s (by simp at this; omega) w
    | nil =>
      exact text_k3 [] (fun y hy => by cases hy) K w c3 cs hk hr ks (by decide) (by decide)
    | cons a t =>
      have e := text_kids (.cons a t) (by show (3 : Int) ≤ 3; decide)
      have e' : text (.cons a t) = [91] ++ joinT (kidsM (.cons a t)) ++ [93] := e
      have hl : ([91] ++ joinT (kidsM (.cons a t)) ++ [93]).length ≤ 1000 := by rw [← e']; exact hlen
      have hkl := kids_len (.cons a t)
      rw [e']
      exact text_k3 _ (fun y hy => ihn y (by have := sz_kids _ y hy; omega)) K w c3 cs hk hr ks (by simp at hl; omega) (by omega)
    | pair a b =>
      have e := text_kids (.pair a b) (by show (3 : Int) ≤ 4; decide)
      have e' : text (.pair a b) = [60] ++ joinT (kidsM (.pair a b)) ++ [62] := e
      have hl : ([60] ++ joinT (kidsM (.pair a b)) ++ [62]).length ≤ 1000 := by rw [← e']; exact hlen
      have hkl := kids_len (.pair a b)
      rw [e']
      exact text_k4 _ (fun y hy => ihn y (by have := sz_kids _ y hy; omega)) K w c3 cs hk hr ks (by simp at hl; omega) (by omega)
theorem text_w (K : Nat → Prop) (w : World) (x : TV) (c0 c1 c2 c3 : Value) (h : MR K w x c0 c1 c2 c3) (ks : ∀ k, K k → k < w.heap.size) (hl : (text x).length ≤ 1000) : Calls Try.prog 98 #[.agg #[c0, c1, c2, c3]] w fun e w' => e = .returned (S (text x)) ∧ Below w.heap.size w w' :=
  textM _ x (Nat.le_refl _) K w c0 c1 c2 c3 h ks hl
end Go.Proofs.Qxb6500470a
