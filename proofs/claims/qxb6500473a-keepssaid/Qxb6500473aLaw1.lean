import Derived.Test.Qxb6500473aMod4
namespace Go.Proofs.Qxb6500473a
open Go.RowKit
attribute [local go_sem] run_store_float drewN_alloc drewN_setCell
/-- An answer: the error, the number, the text. -/
abbrev AnsV (e n : Int) (s : List UInt8) : Value := .agg #[I e, I n, I 0, S s]
/-- An answer stored in its block. -/
def set4 (w : World) (g : Nat) (a b c d : Value) : World := (((w.setCell ⟨g, 0, none⟩ a).setCell ⟨g, 1, none⟩ b).setCell ⟨g, 2, none⟩ c).setCell ⟨g, 3, none⟩ d
theorem set4_upd {bs : List Nat} {w w1 : World} {g : Nat} (u : Upd bs w w1) (hg : g ∈ bs ∨ w.heap.size ≤ g) (a b c d : Value) : Upd bs w (set4 w1 g a b c d) :=
  (((u.setCell hg a).setCell hg b).setCell hg c).setCell hg d
theorem set4_below {w w1 : World} {g : Nat} (u : Below w.heap.size w w1) (hg : w.heap.size ≤ g) (a b c d : Value) : Below w.heap.size w (set4 w1 g a b c d) :=
  (set4_upd (Upd.of_below (bs := []) u) (Or.inr hg) a b c d).below (Nat.le_refl _) (by simp)

set_option maxHeartbeats 1000000 in
theorem told_any (v : Nat) (e : Int) (w : World) :
    Calls Try.prog 23 #[D64 v, I e] w fun x w' => x = .returned (AnsV e 0 (text64 v)) ∧ Below w.heap.size w w' := by
  go_enter Try.func23, Try.ntmps23
  go_wp2_with fail
  refine (text_any _ _).mono ?_
  rintro x w1 ⟨rfl, b1⟩
  have T1 : Blk w1 w.heap.size #[I 0, I 0, I 0, S []] 36 := (Blk.new rfl : Blk (w.alloc _) _ _ _).below b1 (by simp)
  obtain ⟨t1, t2, t3⟩ := T1.facts
  have b2 : Below w.heap.size w w1 := ((Below.refl _ _).alloc (Nat.le_refl _) _).trans (b1.mono (by simp))
  go_wp2
  refine ret_row Try.results23 rfl rfl (T1.set (i := 0) _ |>.set (i := 1) _ |>.set (i := 2) _ |>.set (i := 3) _) Try.underlying36 rfl (by kernel_rfl) ⟨rfl, ?_⟩
  exact set4_below b2 (Nat.le_refl _) _ _ _ _

theorem len_all (w : World) (p bl : Nat) (A : List Nat) (h : SerA w p bl A) :
    Calls Try.prog 21 #[ptr p] w fun e w' => e = .returned (I A.length) ∧ w' = w := by
  obtain ⟨lv, s, l⟩ := h
  exact len_any w p bl lv A.length s
theorem at_all (w : World) (p bl : Nat) (A : List Nat) (h : SerA w p bl A) (i : Nat) (hi : i < A.length) :
    Calls Try.prog 22 #[ptr p, I i] w fun e w' => ∃ v m, e = .returned (.tuple #[D64 v, I 0]) ∧ can64 v = A.getD i 0 ∧ w' = w.drewN m := by
  obtain ⟨lv, s, l⟩ := h
  refine (at_in w p bl lv A.length i s hi).mono ?_
  rintro e w' ⟨rfl, m, rfl⟩
  exact ⟨_, m, rfl, (fld (l i hi)).1, rfl⟩
theorem at_none (w : World) (p bl : Nat) (A : List Nat) (h : SerA w p bl A) (i : Int) (hi : i < 0 ∨ (A.length : Int) ≤ i) :
    Calls Try.prog 22 #[ptr p, I i] w fun e w' => e = .returned (.tuple #[D64 0, I 3]) ∧ ∃ m, w' = w.drewN m := by
  obtain ⟨lv, s, l⟩ := h
  exact at_out w p bl lv A.length i s hi
theorem whole_all (w : World) (p bl : Nat) (A : List Nat) (h : SerA w p bl A) (i : Nat) (hi : i < A.length) :
    Calls Try.prog 24 #[ptr p, I i] w fun e w' => e = .returned (.tuple #[I (wholeF (A.getD i 0)).1, I (wholeF (A.getD i 0)).2]) ∧ ∃ m, w' = w.drewN m := by
  obtain ⟨lv, s, l⟩ := h
  rw [← (fld (l i hi)).1, wholeF_can]
  exact whole_in w p bl lv A.length i s hi
theorem whole_none (w : World) (p bl : Nat) (A : List Nat) (h : SerA w p bl A) (i : Int) (hi : i < 0 ∨ (A.length : Int) ≤ i) :
    Calls Try.prog 24 #[ptr p, I i] w fun e w' => e = .returned (.tuple #[I 0, I 3]) ∧ ∃ m, w' = w.drewN m := by
  obtain ⟨lv, s, l⟩ := h
  exact whole_out w p bl lv A.length i s hi
theorem full_all (num den : Int) (w : World) (p bl : Nat) (A : List Nat) (h : SerA w p bl A) (hn : A.length = 8) :
    Calls Try.prog 19 #[ptr p, I num, I den] w fun e w' => e = .returned (I 1) ∧ w' = w := by
  obtain ⟨lv, s, l⟩ := h
  rw [hn] at s
  exact push_full num den w p bl lv s
theorem empty_all (w : World) (p bl : Nat) (h : SerA w p bl []) :
    Calls Try.prog 20 #[ptr p] w fun e w' => e = .returned (I 2) ∧ w' = w := by
  obtain ⟨lv, s, l⟩ := h
  exact pop_none w p bl lv s

/-- What a step answers, and the samples behind it. -/
def doA (K a b : Int) (A : List Nat) : (Int × Int × List UInt8) × List Nat :=
  if K = 1 then (if A.length = 8 then ((1, 0, []), A) else ((0, 0, []), A ++ [ratioF a b]))
  else if K = 2 then (if A = [] then ((2, 0, []), A) else ((0, 0, []), A.dropLast))
  else if K = 3 then ((0, A.length, []), A)
  else if K = 4 then (if a < 0 ∨ (A.length : Int) ≤ a then ((3, 0, text64 0), A) else ((0, 0, text64 (A.getD a.toNat 0)), A))
  else if K = 5 then (if a < 0 ∨ (A.length : Int) ≤ a then ((3, 0, []), A) else (((wholeF (A.getD a.toNat 0)).2, (wholeF (A.getD a.toNat 0)).1, []), A))
  else if K = 6 then ((0, 0, text64 (sumF A)), A)
  else if K = 7 then ((if A = [] then 2 else 0, 0, text64 (meanF A)), A)
  else if K = 8 then ((if A = [] then 2 else 0, 0, text64 (minF A)), A)
  else if K = 9 then ((if A = [] then 2 else 0, 0, text64 (maxF A)), A)
  else if K = 10 then ((0, 0, showF A), A)
  else if K = 11 then ((0, 1, []), A)
  else ((0, 0, []), A)
/-- A step of a script. -/
abbrev OpV (K a b c : Int) (s t : ByteArray) : Value := .agg #[I K, I a, I b, I c, .string s, .string t]
def DoR (p bl : Nat) (w : World) (r : (Int × Int × List UInt8) × List Nat) : Ending → World → Prop := fun x w' => x = .returned (AnsV r.1.1 r.1.2.1 r.1.2.2) ∧ SerA w' p bl r.2 ∧ Upd [p, bl] w w'
theorem do_fin {w w1 : World} {p bl : Nat} {A B : List Nat} {o1 o2 : Obj} (h : SerA w p bl B) (u1 : Upd [p, bl] ((w.alloc o1).alloc o2) w1) (s1 : SerA w1 p bl A) (a b c d : Value) :
    SerA (set4 w1 (w.heap.size + 1) a b c d) p bl A ∧ Upd [p, bl] w (set4 w1 (w.heap.size + 1) a b c d) := by
  obtain ⟨h1, h2, -, -⟩ := h.lt
  refine ⟨s1.upd (set4_upd (bs := [w.heap.size + 1]) (Upd.refl _ _) (by simp) a b c d) (by simp; omega) (by simp; omega), ?_⟩
  have u0 : Upd [p, bl] w ((w.alloc o1).alloc o2) := ((Upd.refl _ _).alloc _).alloc _
  exact set4_upd (u0.trans u1) (Or.inr (by omega)) a b c d
theorem do_pre {w : World} {p bl : Nat} {A : List Nat} (h : SerA w p bl A) (o1 o2 : Obj) : SerA ((w.alloc o1).alloc o2) p bl A := h.later (((Below.refl _ _).alloc (Nat.le_refl _) _).alloc (by simp) _)
theorem do_T {w w1 : World} {p bl : Nat} {A : List Nat} {o1 : Obj} {cs : Array Value} {t : TypeId} (h : SerA w p bl A) (u : Upd [p, bl] ((w.alloc o1).alloc (.cells cs t)) w1) : Blk w1 (w.heap.size + 1) cs t := by
  obtain ⟨h1, h2, -, -⟩ := h.lt
  exact (Blk.new (World.size_alloc _ _).symm : Blk ((w.alloc o1).alloc (.cells cs t)) _ _ _).upd u (by simp; omega)

theorem do_eq {w w1 : World} {p bl : Nat} {A : List Nat} {o1 o2 : Obj} {m : Nat} (h : SerA w p bl A) (e : w1 = ((w.alloc o1).alloc o2).drewN m) : SerA w1 p bl A ∧ Upd [p, bl] ((w.alloc o1).alloc o2) w1 := by
  subst e
  exact ⟨(do_pre h _ _).drewN m, Upd.drewN (Upd.refl _ _) m⟩
theorem do_eq0 {w w1 : World} {p bl : Nat} {A : List Nat} {o1 o2 : Obj} (h : SerA w p bl A) (e : w1 = (w.alloc o1).alloc o2) : SerA w1 p bl A ∧ Upd [p, bl] ((w.alloc o1).alloc o2) w1 := by
  subst e
  exact ⟨do_pre h _ _, Upd.refl _ _⟩
end Go.Proofs.Qxb6500473a
