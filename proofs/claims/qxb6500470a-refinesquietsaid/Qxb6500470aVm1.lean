import Derived.Test.Qxb6500470aWd3
namespace Go.Proofs.Qxb6500470a
open Go.RowKit
/-- The four fields of a value in the model. -/
def tagM : TV → Int
  | .int _ => 1
  | .str _ => 2
  | .nil => 3
  | .cons _ _ => 3
  | .pair _ _ => 4
def numM : TV → Int
  | .int n => n
  | _ => 0
def strM : TV → List UInt8
  | .str s => s
  | _ => []
def kidsM : TV → List TV
  | .cons h t => h :: elems t
  | .pair a b => [a, b]
  | _ => []
/-- The slice k of n values owns the cells cs; its block is of K. -/
def RowK (K : Nat → Prop) (w : World) (k : Value) (n : Nat) (cs : List Value) : Prop := w.ownsRow 0 137 4 k n cs ∧ ∀ g, k.ownBlock = some g → K g
/-- The four cells of a value; the cells of a list's elements. -/
def mv (K : Nat → Prop) (w : World) : TV → (Value → Value → Value → Value → Prop) × (List Value → Prop)
  | .int n => (fun c0 c1 c2 c3 => c0 = I 1 ∧ c1 = I n ∧ c2 = S [] ∧ c3 = .slice none 0 0 ∧ -9223372036854775808 ≤ n ∧ n ≤ 9223372036854775807, fun cs => cs = [])
  | .str s => (fun c0 c1 c2 c3 => c0 = I 2 ∧ c1 = I 0 ∧ c2 = S s ∧ c3 = .slice none 0 0, fun cs => cs = [])
  | .nil => (fun c0 c1 c2 c3 => c0 = I 3 ∧ c1 = I 0 ∧ c2 = S [] ∧ c3 = .slice none 0 0, fun cs => cs = [])
  | .cons h t => (fun c0 c1 c2 c3 => c0 = I 3 ∧ c1 = I 0 ∧ c2 = S [] ∧ ∃ d0 d1 d2 d3 r, (mv K w h).1 d0 d1 d2 d3 ∧ (mv K w t).2 r ∧ RowK K w c3 (1 + (elems t).length) (d0 :: d1 :: d2 :: d3 :: r), fun cs => ∃ d0 d1 d2 d3 r, cs = d0 :: d1 :: d2 :: d3 :: r ∧ (mv K w h).1 d0 d1 d2 d3 ∧ (mv K w t).2 r)
  | .pair a b => (fun c0 c1 c2 c3 => c0 = I 4 ∧ c1 = I 0 ∧ c2 = S [] ∧ ∃ d0 d1 d2 d3 e0 e1 e2 e3, (mv K w a).1 d0 d1 d2 d3 ∧ (mv K w b).1 e0 e1 e2 e3 ∧ RowK K w c3 2 [d0, d1, d2, d3, e0, e1, e2, e3], fun cs => cs = [])
def MR (K : Nat → Prop) (w : World) (x : TV) (c0 c1 c2 c3 : Value) : Prop := (mv K w x).1 c0 c1 c2 c3
/-- The cells of a row of values. -/
def MRs (K : Nat → Prop) (w : World) : List TV → List Value → Prop
  | [], cs => cs = []
  | x :: r, cs => ∃ d0 d1 d2 d3 q, cs = d0 :: d1 :: d2 :: d3 :: q ∧ MR K w x d0 d1 d2 d3 ∧ MRs K w r q
theorem mv2 (K : Nat → Prop) (w : World) (t : TV) : ∀ cs, (mv K w t).2 cs ↔ MRs K w (elems t) cs := by
  induction t with
  | cons h t _ ih =>
    intro cs
    constructor
    · rintro ⟨d0, d1, d2, d3, r, e, h1, h2⟩; exact ⟨d0, d1, d2, d3, r, e, h1, (ih r).1 h2⟩
    · rintro ⟨d0, d1, d2, d3, r, e, h1, h2⟩; exact ⟨d0, d1, d2, d3, r, e, h1, (ih r).2 h2⟩
  | _ => intro cs; exact Iff.rfl
theorem MR.open {K : Nat → Prop} {w : World} {x : TV} {c0 c1 c2 c3 : Value} (h : MR K w x c0 c1 c2 c3) :
    c0 = I (tagM x) ∧ c1 = I (numM x) ∧ c2 = S (strM x) ∧ (-9223372036854775808 ≤ numM x ∧ numM x ≤ 9223372036854775807) ∧ (kidsM x = [] → c3 = .slice none 0 0) ∧ ∃ cs, MRs K w (kidsM x) cs ∧ RowK K w c3 (kidsM x).length cs := by
  have z : (-9223372036854775808 : Int) ≤ 0 ∧ (0 : Int) ≤ 9223372036854775807 := by omega
  have nil : ∀ c, c = Value.slice none 0 0 → ∃ cs, MRs K w [] cs ∧ RowK K w c ([] : List TV).length cs := by
    rintro c rfl
    exact ⟨[], rfl, World.ownsRow_nil _ _ _ _, fun g e => by cases e⟩
  cases x with
  | int n => obtain ⟨h0, h1, h2, h3, h4⟩ := h; exact ⟨h0, h1, h2, h4, fun _ => h3, nil _ h3⟩
  | str s => obtain ⟨h0, h1, h2, h3⟩ := h; exact ⟨h0, h1, h2, z, fun _ => h3, nil _ h3⟩
  | nil => obtain ⟨h0, h1, h2, h3⟩ := h; exact ⟨h0, h1, h2, z, fun _ => h3, nil _ h3⟩
  | cons a t =>
    obtain ⟨h0, h1, h2, d0, d1, d2, d3, r, ha, ht, hr⟩ := h
    refine ⟨h0, h1, h2, z, (fun e => by cases e), _, ⟨d0, d1, d2, d3, r, rfl, ha, (mv2 K w t r).1 ht⟩, ?_⟩
    rw [show (kidsM (.cons a t)).length = 1 + (elems t).length from by show (a :: elems t).length = _; rw [List.length_cons, Nat.add_comm]]
    exact hr
  | pair a b =>
    obtain ⟨h0, h1, h2, d0, d1, d2, d3, e0, e1, e2, e3, ha, hb, hr⟩ := h
    exact ⟨h0, h1, h2, z, (fun e => by cases e), _, ⟨d0, d1, d2, d3, _, rfl, ha, e0, e1, e2, e3, _, rfl, hb, rfl⟩, hr⟩
theorem MR.mk {K : Nat → Prop} {w : World} {x : TV} {c3 : Value} (hb : -9223372036854775808 ≤ numM x ∧ numM x ≤ 9223372036854775807) (h0 : kidsM x = [] → c3 = .slice none 0 0) {cs : List Value} (hk : MRs K w (kidsM x) cs) (hr : RowK K w c3 (kidsM x).length cs) : MR K w x (I (tagM x)) (I (numM x)) (S (strM x)) c3 := by
  cases x with
  | int n => exact ⟨rfl, rfl, rfl, h0 rfl, hb⟩
  | str s => exact ⟨rfl, rfl, rfl, h0 rfl⟩
  | nil => exact ⟨rfl, rfl, rfl, h0 rfl⟩
  | cons a t =>
    obtain ⟨d0, d1, d2, d3, r, rfl, ha, ht⟩ := hk
    refine ⟨rfl, rfl, rfl, d0, d1, d2, d3, r, ha, (mv2 K w t r).2 ht, ?_⟩
    rw [show 1 + (elems t).length = (kidsM (.cons a t)).length from by show _ = (a :: elems t).length; rw [List.length_cons, Nat.add_comm]]
    exact hr
  | pair a b =>
    obtain ⟨d0, d1, d2, d3, r, rfl, ha, e0, e1, e2, e3, r2, rfl, hb2, rfl⟩ := hk
    exact ⟨rfl, rfl, rfl, d0, d1, d2, d3, e0, e1, e2, e3, ha, hb2, hr⟩
theorem RowK.kept {K L : Nat → Prop} {w w' : World} {k : Value} {n : Nat} {cs : List Value} (h : RowK K w k n cs) (u : Kept L w w') (hs : ∀ g, K g → L g) : RowK K w' k n cs := by
  refine ⟨⟨h.1.1, ?_⟩, h.2⟩
  rcases h.1.2 with h0 | ⟨g, c, cur, hv, h1, hg, h2⟩
  · exact .inl h0
  · refine .inr ⟨g, c, cur, hv, h1, ?_, h2⟩
    exact Blk.kept (w := w) (t := 137) hg u (hs g (h.2 g (by rw [hv]; rfl)))
theorem RowK.mono {K L : Nat → Prop} {w : World} {k : Value} {n : Nat} {cs : List Value} (h : RowK K w k n cs) (hs : ∀ g, K g → L g) : RowK L w k n cs := ⟨h.1, fun g hg => hs g (h.2 g hg)⟩
theorem mv_mono {K L : Nat → Prop} {w w' : World} (hr : ∀ k n cs, RowK K w k n cs → RowK L w' k n cs) (x : TV) : (∀ c0 c1 c2 c3, (mv K w x).1 c0 c1 c2 c3 → (mv L w' x).1 c0 c1 c2 c3) ∧ ∀ cs, (mv K w x).2 cs → (mv L w' x).2 cs := by
  induction x with
  | int n => exact ⟨fun _ _ _ _ h => h, fun _ h => h⟩
  | str n => exact ⟨fun _ _ _ _ h => h, fun _ h => h⟩
  | nil => exact ⟨fun _ _ _ _ h => h, fun _ h => h⟩
  | cons h t ih1 ih2 =>
    constructor
    · rintro c0 c1 c2 c3 ⟨h0, h1, h2, d0, d1, d2, d3, r, ha, ht, hk⟩
      exact ⟨h0, h1, h2, d0, d1, d2, d3, r, ih1.1 _ _ _ _ ha, ih2.2 _ ht, hr _ _ _ hk⟩
    · rintro cs ⟨d0, d1, d2, d3, r, e, ha, ht⟩
      exact ⟨d0, d1, d2, d3, r, e, ih1.1 _ _ _ _ ha, ih2.2 _ ht⟩
  | pair a b ih1 ih2 =>
    constructor
    · rintro c0 c1 c2 c3 ⟨h0, h1, h2, d0, d1, d2, d3, e0, e1, e2, e3, ha, hb, hk⟩
      exact ⟨h0, h1, h2, d0, d1, d2, d3, e0, e1, e2, e3, ih1.1 _ _ _ _ ha, ih2.1 _ _ _ _ hb, hr _ _ _ hk⟩
    · exact fun _ h => h
theorem MR.kept {K : Nat → Prop} {w w' : World} (u : Kept K w w') {x : TV} {c0 c1 c2 c3 : Value} (h : MR K w x c0 c1 c2 c3) : MR K w' x c0 c1 c2 c3 := (mv_mono (fun _ _ _ h => h.kept u (fun _ h => h)) x).1 _ _ _ _ h
theorem MR.mono {K L : Nat → Prop} {w : World} (u : ∀ k, K k → L k) {x : TV} {c0 c1 c2 c3 : Value} (h : MR K w x c0 c1 c2 c3) : MR L w x c0 c1 c2 c3 := (mv_mono (fun _ _ _ h => h.mono u) x).1 _ _ _ _ h
theorem MRs.mono' {K L : Nat → Prop} {w w' : World} (hr : ∀ k n cs, RowK K w k n cs → RowK L w' k n cs) : ∀ {xs : List TV} {cs : List Value}, MRs K w xs cs → MRs L w' xs cs
  | [], _, h => h
  | _ :: _, _, ⟨d0, d1, d2, d3, q, e, h, hs⟩ => ⟨d0, d1, d2, d3, q, e, (mv_mono hr _).1 _ _ _ _ h, hs.mono' hr⟩
theorem MRs.kept {K : Nat → Prop} {w w' : World} (u : Kept K w w') {xs : List TV} {cs : List Value} (h : MRs K w xs cs) : MRs K w' xs cs := h.mono' (fun _ _ _ h => h.kept u (fun _ h => h))
theorem MRs.mono {K L : Nat → Prop} {w : World} (u : ∀ k, K k → L k) {xs : List TV} {cs : List Value} (h : MRs K w xs cs) : MRs L w xs cs := h.mono' (fun _ _ _ h => h.mono u)
theorem MRs.len {K : Nat → Prop} {w : World} : ∀ {xs : List TV} {cs : List Value}, MRs K w xs cs → cs.length = xs.length * 4
  | [], _, h => by rw [show _ = [] from h]; rfl
  | _ :: r, _, ⟨d0, d1, d2, d3, q, e, h, hs⟩ => by
    rw [e, List.length_cons, List.length_cons, List.length_cons, List.length_cons, hs.len, List.length_cons]
    omega
theorem MRs.append {K : Nat → Prop} {w : World} : ∀ {xs : List TV} {cs : List Value} {ys : List TV} {ds : List Value}, MRs K w xs cs → MRs K w ys ds → MRs K w (xs ++ ys) (cs ++ ds)
  | [], _, ys, ds, h, h2 => by rw [show _ = [] from h]; exact h2
  | _ :: _, _, ys, ds, ⟨d0, d1, d2, d3, q, e, h, hs⟩, h2 => ⟨d0, d1, d2, d3, q ++ ds, by rw [e]; rfl, h, hs.append h2⟩
theorem MRs.split {K : Nat → Prop} {w : World} : ∀ {xs ys : List TV} {cs : List Value}, MRs K w (xs ++ ys) cs → ∃ a b, cs = a ++ b ∧ MRs K w xs a ∧ MRs K w ys b
  | [], ys, cs, h => ⟨[], cs, rfl, rfl, h⟩
  | x :: xs, ys, cs, ⟨d0, d1, d2, d3, q, e, h, hs⟩ => by
    obtain ⟨a, b, rfl, ha, hb⟩ := MRs.split hs
    exact ⟨d0 :: d1 :: d2 :: d3 :: a, b, by rw [e]; rfl, ⟨d0, d1, d2, d3, a, rfl, h, ha⟩, hb⟩
theorem MRs.one {K : Nat → Prop} {w : World} {x : TV} {c0 c1 c2 c3 : Value} (h : MR K w x c0 c1 c2 c3) : MRs K w [x] [c0, c1, c2, c3] := ⟨c0, c1, c2, c3, [], rfl, h, rfl⟩
theorem MRs.at {K : Nat → Prop} {w : World} : ∀ {xs : List TV} {cs : List Value}, MRs K w xs cs → ∀ i (h : i < xs.length), ∃ c0 c1 c2 c3, cs[i * 4]? = some c0 ∧ cs[i * 4 + 1]? = some c1 ∧ cs[i * 4 + 2]? = some c2 ∧ cs[i * 4 + 3]? = some c3 ∧ MR K w xs[i] c0 c1 c2 c3
  | _ :: _, _, ⟨d0, d1, d2, d3, q, e, h, hs⟩, 0, _ => ⟨d0, d1, d2, d3, by rw [e]; rfl, by rw [e]; rfl, by rw [e]; rfl, by rw [e]; rfl, h⟩
  | _ :: r, _, ⟨d0, d1, d2, d3, q, e, h, hs⟩, i + 1, hi => by
    obtain ⟨c0, c1, c2, c3, h0, h1, h2, h3, hm⟩ := hs.at i (by simpa using hi)
    rw [e]
    refine ⟨c0, c1, c2, c3, ?_, ?_, ?_, ?_, hm⟩
    · rw [show (i + 1) * 4 = i * 4 + 4 from by omega]; exact h0
    · rw [show (i + 1) * 4 + 1 = i * 4 + 1 + 4 from by omega]; exact h1
    · rw [show (i + 1) * 4 + 2 = i * 4 + 2 + 4 from by omega]; exact h2
    · rw [show (i + 1) * 4 + 3 = i * 4 + 3 + 4 from by omega]; exact h3
  | [], _, _, i, h => by cases h
theorem MRs.cells1 {K : Nat → Prop} {w : World} : ∀ {xs : List TV} {cs : List Value}, MRs K w xs cs → ∀ u ∈ cs, u.oneCell' = true
  | [], _, h, u, hu => by rw [show _ = [] from h] at hu; cases hu
  | x :: r, _, ⟨d0, d1, d2, d3, q, e, h, hs⟩, u, hu => by
    obtain ⟨h0, h1, h2, -, -, cs, -, hr⟩ := h.open
    have h3 : d3.oneCell' = true := by
      rcases hr.1.2 with ⟨e, -⟩ | ⟨g, c, cur, hv, -⟩
      · rw [e]; rfl
      · rw [hv]; rfl
    rw [e] at hu
    simp only [List.mem_cons] at hu
    rcases hu with rfl | rfl | rfl | rfl | hu
    · rw [h0]; rfl
    · rw [h1]; rfl
    · rw [h2]; rfl
    · exact h3
    · exact hs.cells1 u hu
/-- A row of values, opened: where it lies, its cells. -/
theorem RowK.form {K : Nat → Prop} {w : World} {k : Value} {xs : List TV} {cs : List Value} (h : RowK K w k xs.length cs) (hn : 0 < xs.length) :
    ∃ g cap, k = .slice (some ⟨g, 0, none⟩) xs.length cap ∧ K g ∧ xs.length ≤ cap ∧ (∀ j u, cs[j]? = some u → w.cell? ⟨g, j, none⟩ = some u) ∧ g < w.heap.size := by
  rcases h.1.2 with ⟨_, h0⟩ | ⟨g, c, cur, hv, -, hg, hle, -, hs, ht⟩
  · omega
  · refine ⟨g, c, hv, h.2 g (by rw [hv]; rfl), hle, ?_, Blk.lt (w := w) (c := cur) (t := 137) hg⟩
    intro j u hj
    rw [Blk.cell (w := w) (c := cur) (t := 137) hg j, ← Array.getElem?_toList]
    rw [← ht, List.getElem?_take] at hj
    split at hj
    · exact hj
    · cases hj
/-- Element i of a row of values. -/
theorem RowK.elem {K : Nat → Prop} {w : World} {k : Value} {xs : List TV} {cs : List Value} (h : RowK K w k xs.length cs) (hm : MRs K w xs cs) (i : Nat) (hi : i < xs.length) :
    ∃ g cap c0 c1 c2 c3, k = .slice (some ⟨g, 0, none⟩) xs.length cap ∧ K g ∧ g < w.heap.size ∧ xs.length ≤ cap ∧ w.cell? ⟨g, i * 4, none⟩ = some c0 ∧ w.cell? ⟨g, i * 4 + 1, none⟩ = some c1 ∧ w.cell? ⟨g, i * 4 + 2, none⟩ = some c2 ∧ w.cell? ⟨g, i * 4 + 3, none⟩ = some c3 ∧ MR K w xs[i] c0 c1 c2 c3 := by
  obtain ⟨g, cap, e, kg, hle, hc, hl⟩ := h.form (by omega)
  obtain ⟨c0, c1, c2, c3, h0, h1, h2, h3, hm⟩ := hm.at i hi
  exact ⟨g, cap, c0, c1, c2, c3, e, kg, hl, hle, hc _ _ h0, hc _ _ h1, hc _ _ h2, hc _ _ h3, hm⟩
/-- The texts of a row, a blank between two. -/
def joinT (xs : List TV) : List UInt8 := (xs.flatMap fun x => 32 :: text x).drop 1
theorem joinT_succ (xs : List TV) (i : Nat) (h : i < xs.length) : joinT (xs.take (i + 1)) = joinT (xs.take i) ++ ((if 0 < i then [32] else []) ++ text xs[i]) := by
  unfold joinT
  rw [List.take_succ_eq_append_getElem h, List.flatMap_append]
  cases i with
  | zero => simp
  | succ i =>
    have hne : (List.flatMap (fun x => 32 :: text x) (xs.take (i + 1))) ≠ [] := by
      cases xs with
      | nil => cases h
      | cons a t => simp
    rw [List.drop_append_of_le_length (by cases hx : (List.flatMap (fun x => 32 :: text x) (xs.take (i + 1))) with | nil => exact absurd hx hne | cons a t => simp)]
    simp
theorem flat_elems (t : TV) : ((elems t).flatMap fun x => 32 :: text x) = if t.isCons then [32] ++ inner t else [] := by
  induction t with
  | cons h t _ ih =>
    show (h :: elems t).flatMap _ = _
    rw [List.flatMap_cons, ih]
    show _ = [32] ++ inner (.cons h t)
    rw [inner_cons]
    simp
  | _ => rfl
theorem text_kids (x : TV) (h : 3 ≤ tagM x) : text x = (if tagM x = 4 then [60] else [91]) ++ joinT (kidsM x) ++ (if tagM x = 4 then [62] else [93]) := by
  cases x with
  | int n => exact absurd h (by show ¬ (3 : Int) ≤ 1; decide)
  | str n => exact absurd h (by show ¬ (3 : Int) ≤ 2; decide)
  | nil => rfl
  | cons a t =>
    show text (.cons a t) = [91] ++ joinT (a :: elems t) ++ [93]
    unfold joinT
    rw [List.flatMap_cons, flat_elems, text_cons, inner_cons]
    rfl
  | pair a b =>
    show text (.pair a b) = [60] ++ joinT [a, b] ++ [62]
    unfold joinT
    rw [text_pair]
    simp
theorem sz_elems (t x : TV) (h : x ∈ elems t) : sz x < sz t := by
  induction t with
  | cons a t _ ih =>
    have h' : x ∈ a :: elems t := h
    show sz x < 1 + sz a + sz t
    rcases List.mem_cons.1 h' with rfl | h'
    · omega
    · have := ih h'; omega
  | _ => cases h
theorem sz_kids (x y : TV) (h : y ∈ kidsM x) : sz y < sz x := by
  cases x with
  | cons a t =>
    have h' : y ∈ a :: elems t := h
    show sz y < 1 + sz a + sz t
    rcases List.mem_cons.1 h' with rfl | h'
    · omega
    · have := sz_elems t y h'; omega
  | pair a b =>
    have h' : y ∈ [a, b] := h
    show sz y < 1 + sz a + sz b
    simp at h'
    rcases h' with rfl | rfl <;> omega
  | _ => cases h
theorem joinT_mem (xs : List TV) (x : TV) (h : x ∈ xs) : (text x).length ≤ (joinT xs).length := by
  unfold joinT
  rw [List.length_drop]
  have : (32 :: text x).length ≤ (xs.flatMap fun x => 32 :: text x).length := by
    induction xs with
    | nil => cases h
    | cons a t ih =>
      rw [List.flatMap_cons, List.length_append]
      rcases List.mem_cons.1 h with rfl | h
      · omega
      · have := ih h; omega
  rw [List.length_cons] at this
  omega
theorem joinT_take (xs : List TV) (i : Nat) : (joinT (xs.take i)).length ≤ (joinT xs).length := by
  unfold joinT
  rw [List.length_drop, List.length_drop]
  have : ((xs.take i).flatMap fun x => 32 :: text x).length ≤ (xs.flatMap fun x => 32 :: text x).length := by
    conv => rhs; rw [← List.take_append_drop i xs, List.flatMap_append, List.length_append]
    omega
  omega
theorem kids_len (x : TV) : (kidsM x).length ≤ (text x).length := by
  have key : ∀ xs : List TV, xs.length ≤ (xs.flatMap fun x => 32 :: text x).length := by
    intro xs
    induction xs with
    | nil => exact Nat.le_refl _
    | cons a t ih => rw [List.flatMap_cons, List.length_append, List.length_cons, List.length_cons]; omega
  by_cases h : 3 ≤ tagM x
  · rw [text_kids x h]
    have := key (kidsM x)
    have e : (joinT (kidsM x)).length = ((kidsM x).flatMap fun x => 32 :: text x).length - 1 := by unfold joinT; rw [List.length_drop]
    rw [List.length_append, List.length_append]
    have h1 : 1 ≤ (if tagM x = 4 then [60] else [91] : List UInt8).length := by split <;> decide
    omega
  · cases x with
    | int n => exact Nat.zero_le _
    | str n => exact Nat.zero_le _
    | nil => exact absurd (show (3 : Int) ≤ 3 by decide) h
    | cons a t => exact absurd (show (3 : Int) ≤ 3 by decide) h
    | pair a b => exact absurd (show (3 : Int) ≤ 4 by decide) h
end Go.Proofs.Qxb6500470a
