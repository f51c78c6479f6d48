import Derived.Test.Qxb6500472aMod4
namespace Go.Proofs.Qxb6500472a
open Go.RowKit
attribute [local go_sem] run_store_float drewN_alloc drewN_setCell
/-- The abstract series by its samples; o: the block of its row. -/
def MA (w : World) (p : Nat) (o : Option Nat) (A : List Nat) : Prop := ∃ a cap k ys, SerM w p a cap k ys ∧ ys.map can64 = A ∧ blk? a = o
/-- Behind a call on it: its row is the old one or a new one; nothing else has turned. -/
def MPost (p : Nat) (o : Option Nat) (w : World) (A : List Nat) (w' : World) : Prop := ∃ o', MA w' p o' A ∧ (o' = o ∨ ∃ g, o' = some g ∧ w.heap.size ≤ g) ∧ Upd (p :: o.toList) w w'
theorem MA.lt {w : World} {p : Nat} {o : Option Nat} {A : List Nat} (h : MA w p o A) : p < w.heap.size ∧ (∀ g, o = some g → g < w.heap.size ∧ g ≠ p) ∧ A.length ≤ 8 := by
  obtain ⟨a, cap, k, ys, s, rfl, rfl⟩ := h
  refine ⟨s.head.lt, fun g hg => ⟨?_, fun e => s.far (by rw [hg, e])⟩, by rw [List.length_map]; exact s.le⟩
  rcases s.own.2 with ⟨h0, -⟩ | ⟨g', c, cur, hv, -, hb, -⟩
  · simp only [Value.slice.injEq] at h0
    rw [h0.1] at hg
    cases hg
  · simp only [Value.slice.injEq] at hv
    rw [hv.1] at hg
    obtain rfl : g' = g := by simpa [blk?] using hg
    exact Blk.lt (w := w) (t := 80) hb
theorem MA.upd {bs : List Nat} {w w' : World} {p : Nat} {o : Option Nat} {A : List Nat} (h : MA w p o A) (u : Upd bs w w') (hp : p ∉ bs) (ho : ∀ g, o = some g → g ∉ bs) : MA w' p o A := by
  obtain ⟨a, cap, k, ys, s, rfl, rfl⟩ := h
  exact ⟨a, cap, k, ys, s.upd u hp ho, rfl, rfl⟩
theorem MA.later {w w' : World} {p : Nat} {o : Option Nat} {A : List Nat} (h : MA w p o A) (u : Below w.heap.size w w') : MA w' p o A :=
  h.upd (Upd.of_below (bs := []) u) (by simp) (fun _ _ => by simp)
theorem MPost.of_upd {w w' : World} {p : Nat} {o : Option Nat} {A : List Nat} (h : MA w' p o A) (u : Upd [p] w w') : MPost p o w A w' := ⟨o, h, .inl rfl, u.mono (by simp)⟩
theorem MPost.of_below {w w' : World} {p : Nat} {o : Option Nat} {A : List Nat} (h : MA w' p o A) (u : Below w.heap.size w w') : MPost p o w A w' := .of_upd h (Upd.of_below u)
theorem MPost.later {w w1 w2 : World} {p : Nat} {o : Option Nat} {A : List Nat} (h : MPost p o w A w1) (u : Below w1.heap.size w1 w2) : MPost p o w A w2 := by
  obtain ⟨o', m, ho, u1⟩ := h
  exact ⟨o', m.later u, ho, u1.trans (Upd.of_below u)⟩

theorem ma_push (num den : Int) (w : World) (p : Nat) (o : Option Nat) (A : List Nat) (h : MA w p o A) (hn : A.length < 8) :
    Calls Try.prog 43 #[ptr p, I num, I den] w fun e w' => e = .returned (I 0) ∧ MPost p o w (A ++ [ratioF num den]) w' := by
  obtain ⟨a, cap, k, ys, s, rfl, rfl⟩ := h
  rw [List.length_map] at hn
  refine (mPush_room num den w p a cap k ys s hn).mono ?_
  rintro e w' ⟨rfl, g, cap', y, s', cy, hg, u⟩
  refine ⟨rfl, some g, ⟨_, cap', k, _, s', by rw [List.map_append, ← cy]; rfl, rfl⟩, ?_, u _ (by simp) (fun g hg => by simp [hg])⟩
  rcases hg with e | e
  · exact .inl e.symm
  · exact .inr ⟨g, rfl, e⟩
theorem ma_full (num den : Int) (w : World) (p : Nat) (o : Option Nat) (A : List Nat) (h : MA w p o A) (hn : A.length = 8) :
    Calls Try.prog 43 #[ptr p, I num, I den] w fun e w' => e = .returned (I 1) ∧ MPost p o w A w' := by
  have hh := h
  obtain ⟨a, cap, k, ys, s, rfl, rfl⟩ := h
  rw [List.length_map] at hn
  refine (mPush_full num den w p a cap k ys s hn).mono ?_
  rintro e w' ⟨rfl, rfl⟩
  exact ⟨rfl, .of_below hh (Below.refl _ _)⟩
theorem ma_empty (w : World) (p : Nat) (o : Option Nat) (A : List Nat) (h : MA w p o A) (hn : A = []) :
    Calls Try.prog 44 #[ptr p] w fun e w' => e = .returned (I 2) ∧ MPost p o w A w' := by
  have hh := h
  obtain ⟨a, cap, k, ys, s, rfl, rfl⟩ := h
  obtain rfl : ys = [] := by simpa using hn
  refine (mPop_none w p a cap k s).mono ?_
  rintro e w' ⟨rfl, rfl⟩
  exact ⟨rfl, .of_below hh (Below.refl _ _)⟩
theorem ma_pop (w : World) (p : Nat) (o : Option Nat) (A : List Nat) (h : MA w p o A) (hn : A ≠ []) :
    Calls Try.prog 44 #[ptr p] w fun e w' => e = .returned (I 0) ∧ MPost p o w A.dropLast w' := by
  obtain ⟨a, cap, k, ys, s, rfl, rfl⟩ := h
  refine (mPop_some w p a cap k ys s (by simpa using hn)).mono ?_
  rintro e w' ⟨rfl, s', u⟩
  exact ⟨rfl, .of_upd ⟨a, cap, k, _, s', by rw [List.map_dropLast], rfl⟩ (u _ (by simp))⟩
theorem ma_len (w : World) (p : Nat) (o : Option Nat) (A : List Nat) (h : MA w p o A) :
    Calls Try.prog 42 #[ptr p] w fun e w' => e = .returned (I A.length) ∧ MPost p o w A w' := by
  have hh := h
  obtain ⟨a, cap, k, ys, s, rfl, rfl⟩ := h
  refine (mLen_any w p a cap k ys s).mono ?_
  rintro e w' ⟨rfl, rfl⟩
  exact ⟨by rw [List.length_map], .of_below hh (Below.refl _ _)⟩
theorem ma_at (w : World) (p : Nat) (o : Option Nat) (A : List Nat) (h : MA w p o A) (i : Nat) (hi : i < A.length) :
    Calls Try.prog 51 #[ptr p, I i] w fun e w' => ∃ v, e = .returned (.tuple #[D64 v, I 0]) ∧ can64 v = A.getD i 0 ∧ MPost p o w A w' := by
  have hh := h
  obtain ⟨a, cap, k, ys, s, rfl, rfl⟩ := h
  rw [List.length_map] at hi
  refine (mAt_in w p a cap k ys s i hi).mono ?_
  rintro e w' ⟨rfl, rfl⟩
  exact ⟨_, rfl, (getD_can ys i hi).symm, .of_below hh (Below.refl _ _)⟩
theorem ma_atx (w : World) (p : Nat) (o : Option Nat) (A : List Nat) (h : MA w p o A) (i : Int) (hi : i < 0 ∨ (A.length : Int) ≤ i) :
    Calls Try.prog 51 #[ptr p, I i] w fun e w' => e = .returned (.tuple #[D64 0, I 3]) ∧ MPost p o w A w' := by
  have hh := h
  obtain ⟨a, cap, k, ys, s, rfl, rfl⟩ := h
  rw [List.length_map] at hi
  refine (mAt_out w p a cap k ys s i hi).mono ?_
  rintro e w' ⟨rfl, rfl⟩
  exact ⟨rfl, .of_below hh (Below.refl _ _)⟩
theorem ma_whole (w : World) (p : Nat) (o : Option Nat) (A : List Nat) (h : MA w p o A) (i : Nat) (hi : i < A.length) :
    Calls Try.prog 54 #[ptr p, I i] w fun e w' => e = .returned (.tuple #[I (wholeF (A.getD i 0)).1, I (wholeF (A.getD i 0)).2]) ∧ MPost p o w A w' := by
  have hh := h
  obtain ⟨a, cap, k, ys, s, rfl, rfl⟩ := h
  rw [List.length_map] at hi
  rw [getD_can ys i hi, wholeF_can]
  refine (mWhole_in w p a cap k ys s i hi).mono ?_
  rintro e w' ⟨rfl, rfl⟩
  exact ⟨rfl, .of_below hh (Below.refl _ _)⟩
theorem ma_wholex (w : World) (p : Nat) (o : Option Nat) (A : List Nat) (h : MA w p o A) (i : Int) (hi : i < 0 ∨ (A.length : Int) ≤ i) :
    Calls Try.prog 54 #[ptr p, I i] w fun e w' => e = .returned (.tuple #[I 0, I 3]) ∧ MPost p o w A w' := by
  have hh := h
  obtain ⟨a, cap, k, ys, s, rfl, rfl⟩ := h
  rw [List.length_map] at hi
  refine (mWhole_out w p a cap k ys s i hi).mono ?_
  rintro e w' ⟨rfl, rfl⟩
  exact ⟨rfl, .of_below hh (Below.refl _ _)⟩
theorem ma_sum (w : World) (p : Nat) (o : Option Nat) (A : List Nat) (h : MA w p o A) :
    Calls Try.prog 76 #[ptr p] w fun e w' => ∃ v, e = .returned (D64 v) ∧ can64 v = sumF A ∧ MPost p o w A w' := by
  obtain ⟨a, cap, k, ys, s, rfl, rfl⟩ := h
  refine (mSum_any w p a cap k ys s).mono ?_
  rintro e w' ⟨v, rfl, cv, s', b⟩
  exact ⟨v, rfl, cv, .of_below ⟨a, cap, k, ys, s', rfl, rfl⟩ b⟩
theorem nil_map (ys : List Nat) : (if ys.map can64 = [] then (2 : Int) else 0) = if ys = [] then 2 else 0 := by cases ys <;> rfl
theorem ma_mean (w : World) (p : Nat) (o : Option Nat) (A : List Nat) (h : MA w p o A) :
    Calls Try.prog 77 #[ptr p] w fun e w' => ∃ v, e = .returned (.tuple #[D64 v, I (if A = [] then 2 else 0)]) ∧ can64 v = meanF A ∧ MPost p o w A w' := by
  obtain ⟨a, cap, k, ys, s, rfl, rfl⟩ := h
  refine (mMean_any w p a cap k ys s).mono ?_
  rintro e w' ⟨v, rfl, cv, s', b⟩
  exact ⟨v, by rw [nil_map], cv, .of_below ⟨a, cap, k, ys, s', rfl, rfl⟩ b⟩
theorem ma_min (w : World) (p : Nat) (o : Option Nat) (A : List Nat) (h : MA w p o A) :
    Calls Try.prog 49 #[ptr p] w fun e w' => ∃ v, e = .returned (.tuple #[D64 v, I (if A = [] then 2 else 0)]) ∧ can64 v = minF A ∧ MPost p o w A w' := by
  obtain ⟨a, cap, k, ys, s, rfl, rfl⟩ := h
  refine (mMin_any w p a cap k ys s).mono ?_
  rintro e w' ⟨v, rfl, cv, ⟨k', s'⟩, b⟩
  exact ⟨v, by rw [nil_map], cv, .of_upd ⟨a, cap, k', ys, s', rfl, rfl⟩ b⟩
theorem ma_max (w : World) (p : Nat) (o : Option Nat) (A : List Nat) (h : MA w p o A) :
    Calls Try.prog 50 #[ptr p] w fun e w' => ∃ v, e = .returned (.tuple #[D64 v, I (if A = [] then 2 else 0)]) ∧ can64 v = maxF A ∧ MPost p o w A w' := by
  obtain ⟨a, cap, k, ys, s, rfl, rfl⟩ := h
  refine (mMax_any w p a cap k ys s).mono ?_
  rintro e w' ⟨v, rfl, cv, ⟨k', s'⟩, b⟩
  exact ⟨v, by rw [nil_map], cv, .of_upd ⟨a, cap, k', ys, s', rfl, rfl⟩ b⟩
theorem ma_show (w : World) (p : Nat) (o : Option Nat) (A : List Nat) (h : MA w p o A) :
    Calls Try.prog 46 #[ptr p] w fun e w' => e = .returned (S (showF A)) ∧ MPost p o w A w' := by
  obtain ⟨a, cap, k, ys, s, rfl, rfl⟩ := h
  refine (mShow_any w p a cap k ys s).mono ?_
  rintro e w' ⟨rfl, s', b⟩
  exact ⟨rfl, .of_upd ⟨a, cap, k, ys, s', rfl, rfl⟩ b⟩

theorem len_all (w : World) (p bl : Nat) (A : List Nat) (h : SerA w p bl A) :
    Calls Try.prog 71 #[ptr p] w fun e w' => e = .returned (I A.length) ∧ w' = w := by
  obtain ⟨lv, s, l⟩ := h
  exact len_any w p bl lv A.length s
theorem full_all (num den : Int) (w : World) (p bl : Nat) (A : List Nat) (h : SerA w p bl A) (hn : A.length = 8) :
    Calls Try.prog 27 #[ptr p, I num, I den] w fun e w' => e = .returned (I 1) ∧ w' = w := by
  obtain ⟨lv, s, l⟩ := h
  rw [hn] at s
  exact push_full num den w p bl lv s
theorem empty_all (w : World) (p bl : Nat) (h : SerA w p bl []) :
    Calls Try.prog 70 #[ptr p] w fun e w' => e = .returned (I 2) ∧ w' = w := by
  obtain ⟨lv, s, l⟩ := h
  exact pop_none w p bl lv s
theorem MPost.blk {w w' : World} {q : Nat} {o : Option Nat} {C : List Nat} (m : MPost q o w C w') {b : Nat} {c : Array Value} {t : TypeId} (k : Blk w b c t) (hb : b ≠ q) (ho : ∀ g, o = some g → g ≠ b) : Blk w' b c t := by
  obtain ⟨o', -, -, u⟩ := m
  refine k.upd u ?_
  intro hm
  simp only [List.mem_cons, Option.mem_toList] at hm
  rcases hm with e | e
  · exact hb e
  · exact ho b e rfl
/-- An answer: the error, the number, the text. -/
abbrev AnsV (e n : Int) (s : List UInt8) : Value := .agg #[I e, I n, I 0, S s]
/-- An answer stored in its block. -/
def set4 (w : World) (g : Nat) (a b c d : Value) : World := (((w.setCell ⟨g, 0, none⟩ a).setCell ⟨g, 1, none⟩ b).setCell ⟨g, 2, none⟩ c).setCell ⟨g, 3, none⟩ d
theorem set4_upd {bs : List Nat} {w w1 : World} {g : Nat} (u : Upd bs w w1) (hg : g ∈ bs ∨ w.heap.size ≤ g) (a b c d : Value) : Upd bs w (set4 w1 g a b c d) :=
  (((u.setCell hg a).setCell hg b).setCell hg c).setCell hg d
theorem set4_below {w w1 : World} {g : Nat} (u : Below w.heap.size w w1) (hg : w.heap.size ≤ g) (a b c d : Value) : Below w.heap.size w (set4 w1 g a b c d) :=
  (set4_upd (Upd.of_below (bs := []) u) (Or.inr hg) a b c d).below (Nat.le_refl _) (by simp)

/-- A step of a script. -/
abbrev OpV (K a b c : Int) (s t : ByteArray) : Value := .agg #[I K, I a, I b, I c, .string s, .string t]
end Go.Proofs.Qxb6500472a
