import Derived.Test.Qxb6500470aVm5
namespace Go.Proofs.Qxb6500470a
open Go.RowKit
def SoundMC (x : TV) : Prop := ∀ (K : Nat → Prop) (w : World) (c0 c1 c2 c3 : Value), MR K w x c0 c1 c2 c3 → (∀ k, K k → k < w.heap.size) → (kidsM x).length ≤ 1000 → (text x).length ≤ 1000 → Calls Try.prog 99 #[.agg #[c0, c1, c2, c3]] w fun e w' => e = .returned (.bool true) ∧ Below w.heap.size w w'
theorem se0 : (str []).toList = [] := str_toList []
set_option maxRecDepth 100000 in
set_option maxHeartbeats 8000000 in
theorem msound_int (n : Int) (w : World) : Calls Try.prog 99 #[.agg #[I 1, I n, S [], .slice none 0 0]] w fun e w' => e = .returned (.bool true) ∧ Below w.heap.size w w' := by
  have b1 := (Below.refl w.heap.size w).alloc (Nat.le_refl _) (.cells #[I 1, I n, S [], .slice none 0 0] 137)
  have e := se0
  go_enter Try.func99, Try.ntmps99
  go_wp2
  go_ret
  exact ⟨rfl, b1⟩
set_option maxRecDepth 100000 in
set_option maxHeartbeats 8000000 in
theorem msound_str (s : List UInt8) (w : World) : Calls Try.prog 99 #[.agg #[I 2, I 0, S s, .slice none 0 0]] w fun e w' => e = .returned (.bool true) ∧ Below w.heap.size w w' := by
  have b1 := (Below.refl w.heap.size w).alloc (Nat.le_refl _) (.cells #[I 2, I 0, S s, .slice none 0 0] 137)
  go_enter Try.func99, Try.ntmps99
  go_wp2
  go_ret
  exact ⟨rfl, b1⟩
set_option maxRecDepth 100000 in
set_option maxHeartbeats 8000000 in
theorem msound_k3 (xs : List TV) (ih : ∀ y ∈ xs, SoundMC y) (hl2 : ∀ y ∈ xs, (kidsM y).length ≤ 1000 ∧ (text y).length ≤ 1000) (K : Nat → Prop) (w : World) (c3 : Value) (cs : List Value) (hk : MRs K w xs cs) (hr : RowK K w c3 xs.length cs) (ks : ∀ k, K k → k < w.heap.size) (hxl : xs.length ≤ 1000) :
    Calls Try.prog 99 #[.agg #[I 3, I 0, S [], c3]] w fun e w' => e = .returned (.bool true) ∧ Below w.heap.size w w' := by
  obtain ⟨a, cap, rfl⟩ := hr.slice
  have b1 := (Below.refl w.heap.size w).alloc (Nat.le_refl _) (.cells #[I 3, I 0, S [], .slice a xs.length cap] 137)
  have TO : Blk (w.alloc (.cells #[I 3, I 0, S [], .slice a xs.length cap] 137)) w.heap.size #[I 3, I 0, S [], .slice a xs.length cap] 137 := Blk.new rfl
  have HIH : Hid _ := ih
  have HL2 : Hid _ := hl2
  have HK : Hid _ := hk
  have HR : Hid (RowK K w (.slice a xs.length cap) xs.length cs) := hr
  have e := se0
  clear ih hk hr hl2
  go_enter Try.func99, Try.ntmps99
  go_wp2
  go_loopw [3] (fun i wr => ∃ k : Nat, k ≤ xs.length ∧ i = I (k : Int) ∧ Blk wr w.heap.size #[I 3, I 0, S [], .slice a xs.length cap] 137 ∧ Below w.heap.size w wr) (fun i _ => (xs.length - intOf i).toNat)
  case atStart => exact ⟨0, by omega, rfl, TO, b1⟩
  case round =>
    clear TO b1
    obtain ⟨k, hkl, rfl, TO, b1⟩ := hrel
    have d3 := TO.cell 3
    by_cases hlt : k < xs.length
    · have q1 : (k : Int) < (xs.length : Int) := by omega
      have kk : Kept K w wr := Kept.of_below b1 ks
      have ks' : ∀ k, K k → k < wr.heap.size := fun k hk => Nat.lt_of_lt_of_le (ks k hk) b1.size
      obtain ⟨g, cap', c0, c1, c2, c3, e, kg, hl, hle, h0, h1, h2, h3, hm⟩ := (HR.out.kept kk (fun _ h => h)).elem (HK.out.kept kk) k hlt
      simp only [Value.slice.injEq, true_and] at e
      obtain ⟨rfl, rfl⟩ := e
      have hmem : xs[k] ∈ xs := List.getElem_mem hlt
      have T := HIH.out _ hmem K wr c0 c1 c2 c3 hm ks' (HL2.out _ hmem).1 (HL2.out _ hmem).2
      clear hm HK HR hmem
      go_wp2_with fail
      refine T.mono ?_
      rintro e w2 ⟨rfl, b2⟩
      have TO2 := TO.below b2 TO.lt
      have b3 := b1.trans (b2.mono b1.size)
      go_wp2
      go_roundw
      case rel => exact ⟨k + 1, by omega, by go_num, TO2, b3⟩
      case measure => simp [intOf]; omega
    · have q1 : ¬ (k : Int) < (xs.length : Int) := by omega
      go_wp2
      go_ret
      exact ⟨rfl, b1⟩
set_option maxRecDepth 100000 in
set_option maxHeartbeats 8000000 in
theorem msound_k4 (xs : List TV) (ih : ∀ y ∈ xs, SoundMC y) (hl2 : ∀ y ∈ xs, (kidsM y).length ≤ 1000 ∧ (text y).length ≤ 1000) (K : Nat → Prop) (w : World) (c3 : Value) (cs : List Value) (hk : MRs K w xs cs) (hr : RowK K w c3 xs.length cs) (ks : ∀ k, K k → k < w.heap.size) (hxl : xs.length ≤ 1000) (h2 : xs.length = 2) :
    Calls Try.prog 99 #[.agg #[I 4, I 0, S [], c3]] w fun e w' => e = .returned (.bool true) ∧ Below w.heap.size w w' := by
  obtain ⟨a, cap, rfl⟩ := hr.slice
  have b1 := (Below.refl w.heap.size w).alloc (Nat.le_refl _) (.cells #[I 4, I 0, S [], .slice a xs.length cap] 137)
  have TO : Blk (w.alloc (.cells #[I 4, I 0, S [], .slice a xs.length cap] 137)) w.heap.size #[I 4, I 0, S [], .slice a xs.length cap] 137 := Blk.new rfl
  have HIH : Hid _ := ih
  have HL2 : Hid _ := hl2
  have HK : Hid _ := hk
  have HR : Hid (RowK K w (.slice a xs.length cap) xs.length cs) := hr
  have e := se0
  have h2a : ((xs.length : Int) == 2) = true := by rw [h2]; rfl
  have h2b : ((xs.length : Int) != 2) = false := by rw [h2]; rfl
  clear h2
  clear ih hk hr hl2
  go_enter Try.func99, Try.ntmps99
  go_wp2
  go_loopw [3] (fun i wr => ∃ k : Nat, k ≤ xs.length ∧ i = I (k : Int) ∧ Blk wr w.heap.size #[I 4, I 0, S [], .slice a xs.length cap] 137 ∧ Below w.heap.size w wr) (fun i _ => (xs.length - intOf i).toNat)
  case atStart => exact ⟨0, by omega, rfl, TO, b1⟩
  case round =>
    clear TO b1
    obtain ⟨k, hkl, rfl, TO, b1⟩ := hrel
    have d3 := TO.cell 3
    by_cases hlt : k < xs.length
    · have q1 : (k : Int) < (xs.length : Int) := by omega
      have kk : Kept K w wr := Kept.of_below b1 ks
      have ks' : ∀ k, K k → k < wr.heap.size := fun k hk => Nat.lt_of_lt_of_le (ks k hk) b1.size
      obtain ⟨g, cap', c0, c1, c2, c3, e, kg, hl, hle, h0, h1, h2, h3, hm⟩ := (HR.out.kept kk (fun _ h => h)).elem (HK.out.kept kk) k hlt
      simp only [Value.slice.injEq, true_and] at e
      obtain ⟨rfl, rfl⟩ := e
      have hmem : xs[k] ∈ xs := List.getElem_mem hlt
      have T := HIH.out _ hmem K wr c0 c1 c2 c3 hm ks' (HL2.out _ hmem).1 (HL2.out _ hmem).2
      clear hm HK HR hmem
      go_wp2_with fail
      refine T.mono ?_
      rintro e w2 ⟨rfl, b2⟩
      have TO2 := TO.below b2 TO.lt
      have b3 := b1.trans (b2.mono b1.size)
      go_wp2
      go_roundw
      case rel => exact ⟨k + 1, by omega, by go_num, TO2, b3⟩
      case measure => simp [intOf]; omega
    · have q1 : ¬ (k : Int) < (xs.length : Int) := by omega
      go_wp2
      go_ret
      exact ⟨rfl, b1⟩
theorem kid_len (x y : TV) (h : y ∈ kidsM x) : (text y).length ≤ (text x).length := by
  by_cases ht : 3 ≤ tagM x
  · have h1 := congrArg List.length (text_kids x ht)
    have h2 := joinT_mem (kidsM x) y h
    rw [List.length_append, List.length_append] at h1
    omega
  · cases x with
    | int n => cases h
    | str n => cases h
    | nil => cases h
    | cons a t => exact absurd (show (3 : Int) ≤ 3 by decide) ht
    | pair a b => exact absurd (show (3 : Int) ≤ 4 by decide) ht
theorem msoundM : ∀ (n : Nat) (x : TV), sz x ≤ n → SoundMC x := by
  intro n
  induction n with
  | zero => intro x hx; cases x <;> simp [sz] at hx <;> omega
  | succ n ihn =>
    intro x hx K w c0 c1 c2 c3 hm ks hkl hlen
    obtain ⟨rfl, rfl, rfl, hb, h0, cs, hk, hr⟩ := hm.open
    have key : ∀ y ∈ kidsM x, SoundMC y := fun y hy => ihn y (by have := sz_kids _ y hy; omega)
    have key2 : ∀ y ∈ kidsM x, (kidsM y).length ≤ 1000 ∧ (text y).length ≤ 1000 := fun y hy => by
      have h1 := kid_len x y hy
      have h2 := kids_len y
      omega
    cases x with
    | int m =>
      obtain rfl := h0 rfl
      exact msound_int m w
    | str s =>
      obtain rfl := h0 rfl
      exact msound_str s w
    | nil => exact msound_k3 [] (fun y hy => by cases hy) (fun y hy => by cases hy) K w c3 cs hk hr ks (by decide)
    | cons a t => exact msound_k3 _ key key2 K w c3 cs hk hr ks hkl
    | pair a b => exact msound_k4 _ key key2 K w c3 cs hk hr ks hkl rfl
theorem msound_w (K : Nat → Prop) (w : World) (x : TV) (c0 c1 c2 c3 : Value) (h : MR K w x c0 c1 c2 c3) (ks : ∀ k, K k → k < w.heap.size) (hl : (text x).length ≤ 1000) : Calls Try.prog 99 #[.agg #[c0, c1, c2, c3]] w fun e w' => e = .returned (.bool true) ∧ Below w.heap.size w w' :=
  msoundM _ x (Nat.le_refl _) K w c0 c1 c2 c3 h ks (by have := kids_len x; omega) hl
set_option maxRecDepth 100000 in
set_option maxHeartbeats 8000000 in
theorem mShow_w (K : Nat → Prop) (w : World) (p : Nat) (st : List TV) (h : MT K w p st) (hf : Fine st) : Calls Try.prog 89 #[ptr p] w fun e w' => e = .returned (S (stText st)) ∧ Below w.heap.size w w' := by
  have hlen := h.len
  have ks := h.ks
  obtain ⟨xs, hxs⟩ : ∃ xs, xs = st.reverse := ⟨_, rfl⟩
  have hfx : ∀ x ∈ xs, (text x).length ≤ 30 := fun x hx => hf x (by rw [hxs] at hx; exact List.mem_reverse.1 hx)
  have hT : stText st = stTx xs xs.length := by rw [hxs]; rfl
  have h' : MS K w p xs := by rw [hxs]; exact h
  obtain ⟨a, cap, cs, hA⟩ := h'
  have hl5 := hA.le
  rw [hT]
  have HA : Hid (MSA K w p a cap xs cs) := hA
  have HFX : Hid _ := hfx
  obtain ⟨hp, -, lp⟩ := hA.at0
  have HTL : Hid (∀ k, k ≤ xs.length → (stTx xs k).length ≤ 300) := by
    intro k hk
    have : ∀ k, k ≤ xs.length → (stTx xs k).length ≤ 20 + 31 * k := by
      intro k
      induction k with
      | zero => intro _; have := itoa_len (xs.length : Int) (by omega) (by omega); simpa [stTx] using this
      | succ k ih =>
        intro hk
        rw [stTx_succ xs k (by omega)]
        have h1 := ih (by omega)
        have h2 := hfx (xs[k]'(by omega)) (List.getElem_mem (by omega))
        simp
        omega
    have := this k hk
    omega
  clear hxs h hf hT hA hfx
  go_enter Try.func89, Try.ntmps89
  go_wp2_with fail
  refine (itoa_any (xs.length : Int) (by omega) (by omega) w).mono ?_
  rintro e w1 ⟨rfl, b1⟩
  go_wp2
  go_loopw [3, 4, 5] (fun t i _ wr => ∃ k : Nat, k ≤ xs.length ∧ t = S (stTx xs k) ∧ i = I (k : Int) ∧ Below w.heap.size w wr) (fun _ i _ _ => (xs.length - intOf i).toNat)
  case atStart => exact ⟨0, by omega, by simp [stTx], rfl, b1⟩
  case round =>
    clear b1 hp
    obtain ⟨k, hk, rfl, rfl, b1⟩ := hrel
    have hB := HA.out.later b1
    have hp := hB.at0.1
    have ht1 := HTL.out k hk
    have hz1 := str_size (stTx xs k)
    by_cases hlt : k < xs.length
    · have q1 : (k : Int) < (xs.length : Int) := by omega
      obtain ⟨g, c0, c1, c2, c3, rfl, hg, kg, lg, hle, h0, h1, h2, h3, hm⟩ := hB.elem k hlt
      have hfk := HFX.out _ (List.getElem_mem hlt)
      have TX := text_w K wr _ c0 c1 c2 c3 hm hB.ks (by omega)
      have HS : Hid _ := stTx_succ xs k hlt
      have hz2 := str_size (text xs[k])
      generalize text xs[k] = tx at *
      clear hB hm
      go_wp2_with fail
      refine TX.mono ?_
      rintro e w2 ⟨rfl, b2⟩
      have b3 := b1.trans (b2.mono b1.size)
      generalize stTx xs k = sk at *
      go_wp2
      go_roundw
      case rel =>
        refine ⟨k + 1, by omega, ?_, by go_num, b3⟩
        rw [HS.out]
        show Value.string (str sk ++ (str [32] ++ str tx)) = .string (str (sk ++ ([32] ++ tx)))
        rw [str_append, str_append]
      case measure => simp [intOf]; omega
    · have q1 : ¬ (k : Int) < (xs.length : Int) := by omega
      obtain rfl : k = xs.length := by omega
      clear hB
      go_wp2
      go_ret
      exact ⟨rfl, b1⟩
set_option maxRecDepth 100000 in
set_option maxHeartbeats 8000000 in
theorem mCheck_w (K : Nat → Prop) (w : World) (p : Nat) (st : List TV) (h : MT K w p st) (hf : Fine st) : Calls Try.prog 90 #[ptr p] w fun e w' => e = .returned (.bool true) ∧ Below w.heap.size w w' := by
  have ks := h.ks
  obtain ⟨xs, hxs⟩ : ∃ xs, xs = st.reverse := ⟨_, rfl⟩
  have hfx : ∀ x ∈ xs, (text x).length ≤ 30 := fun x hx => hf x (by rw [hxs] at hx; exact List.mem_reverse.1 hx)
  have h' : MS K w p xs := by rw [hxs]; exact h
  obtain ⟨a, cap, cs, hA⟩ := h'
  have hl5 := hA.le
  have HA : Hid (MSA K w p a cap xs cs) := hA
  have HFX : Hid _ := hfx
  obtain ⟨hp, -, lp⟩ := hA.at0
  have q5 : (xs.length : Int) ≤ 5 := by omega
  clear hxs h hf hA hfx
  go_enter Try.func90, Try.ntmps90
  go_wp2
  go_loopw [3, 4] (fun i _ wr => ∃ k : Nat, k ≤ xs.length ∧ i = I (k : Int) ∧ Below w.heap.size w wr) (fun i _ _ => (xs.length - intOf i).toNat)
  case atStart => exact ⟨0, by omega, rfl, Below.refl _ _⟩
  case round =>
    clear hp
    obtain ⟨k, hk, rfl, b1⟩ := hrel
    have hB := HA.out.later b1
    have hp := hB.at0.1
    by_cases hlt : k < xs.length
    · have q1 : (k : Int) < (xs.length : Int) := by omega
      obtain ⟨g, c0, c1, c2, c3, rfl, hg, kg, lg, hle, h0, h1, h2, h3, hm⟩ := hB.elem k hlt
      have hfk := HFX.out _ (List.getElem_mem hlt)
      have SO := msound_w K wr _ c0 c1 c2 c3 hm hB.ks (by omega)
      have HTX : Hid (∀ W, Below wr.heap.size wr W → Calls Try.prog 98 #[.agg #[c0, c1, c2, c3]] W fun e w' => e = .returned (S (text xs[k])) ∧ Below W.heap.size W w') := fun W B => text_w K W _ c0 c1 c2 c3 (hm.kept (Kept.of_below B hB.ks)) (fun k hk => Nat.lt_of_lt_of_le (hB.ks k hk) B.size) (by omega)
      have hz2 := str_size (text xs[k])
      have q2 : ¬ (30 : Int) < ((text xs[k]).length : Int) := by omega
      generalize text xs[k] = tx at *
      clear hm
      go_wp2_with fail
      refine SO.mono ?_
      rintro e w2 ⟨rfl, b2⟩
      have e0 := (b2.cell (p := ⟨p, 0, none⟩) (Nat.lt_of_lt_of_le lp b1.size)).trans hp
      have e1 := (b2.cell (p := ⟨g, k * 4, none⟩) lg).trans h0
      have e2 := (b2.cell (p := ⟨g, k * 4 + 1, none⟩) lg).trans h1
      have e3 := (b2.cell (p := ⟨g, k * 4 + 2, none⟩) lg).trans h2
      have e4 := (b2.cell (p := ⟨g, k * 4 + 3, none⟩) lg).trans h3
      clear hB
      go_wp2_with fail
      refine (HTX.out _ b2).mono ?_
      rintro e w3 ⟨rfl, b3⟩
      have b4 := b1.trans ((b2.trans (b3.mono b2.size)).mono b1.size)
      go_wp2
      go_roundw
      case rel => exact ⟨k + 1, by omega, by go_num, b4⟩
      case measure => simp [intOf]; omega
    · have q1 : ¬ (k : Int) < (xs.length : Int) := by omega
      clear hB
      go_wp2
      go_ret
      exact ⟨rfl, b1⟩
end Go.Proofs.Qxb6500470a
