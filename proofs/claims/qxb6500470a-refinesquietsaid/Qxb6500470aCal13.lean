import Derived.Test.Qxb6500470aCal12
namespace Go.Proofs.Qxb6500470a
open Go.RowKit

def dgF : Nat → Nat → List UInt8
  | 0, _ => []
  | f + 1, k => if k = 0 then [] else dgF f (k / 10) ++ [UInt8.ofNat (48 + k % 10)]
theorem dgF_eq : ∀ f k, k < 10 ^ f → dgF f k = dg k
  | 0, k, h => by
    obtain rfl : k = 0 := by simpa using h
    rw [dg_zero]; rfl
  | f + 1, k, h => by
    unfold dgF
    by_cases hk : k = 0
    · subst hk; rw [dg_zero]; rfl
    · rw [if_neg hk, dg_pos k hk, dgF_eq f (k / 10) (by rw [Nat.div_lt_iff_lt_mul (by decide), ← Nat.pow_succ]; exact h)]
def itoaF (n : Int) : List UInt8 := if n = 0 then [48] else if n < 0 then 45 :: dgF 20 n.natAbs else dgF 20 n.natAbs
theorem itoaF_eq (n : Int) (h1 : -9223372036854775808 ≤ n) (h2 : n ≤ 9223372036854775807) : itoaF n = itoa n := by
  have : dgF 20 n.natAbs = dg n.natAbs := dgF_eq 20 _ (by have : (10 : Nat) ^ 20 = 100000000000000000000 := rfl
                                                          omega)
  unfold itoaF itoa
  rw [this]
def vtextF : V → List UInt8
  | some (.inl n) => itoaF n
  | some (.inr s) => itoaF s.length ++ [58] ++ s
  | none => [91, 93]
theorem vtextF_eq (v : V) (h : okV v) : vtextF v = vtext v := by
  rcases v with _ | n | s
  · rfl
  · exact itoaF_eq n h.1 h.2
  · have h' : s.length ≤ 6 := h
    show itoaF s.length ++ [58] ++ s = itoa s.length ++ [58] ++ s
    rw [itoaF_eq _ (by omega) (by omega)]
def macTextF (acc : Int) (l : List V) : List UInt8 := [97, 99, 99, 61] ++ itoaF acc ++ [32, 124, 32] ++ (itoaF (l.length : Nat) ++ l.flatMap fun v => 32 :: vtextF v)
theorem flat_eq (l : List V) (h : ∀ v ∈ l, okV v) : (l.flatMap fun v => 32 :: vtextF v) = l.flatMap fun v => 32 :: vtext v := by
  induction l with
  | nil => rfl
  | cons a l ih =>
    rw [List.flatMap_cons, List.flatMap_cons, vtextF_eq a (h a (by simp)), ih (fun v hv => h v (by simp [hv]))]
theorem Mac.text {K : Nat → Prop} {w : World} {m p : Nat} {acc : Int} {l : List V} (h : Mac K w m p acc l) : macText acc l = macTextF acc l := by
  have h5 := h.le
  unfold macText macTextF stPre
  rw [List.take_of_length_le (Nat.le_refl _), flat_eq l h.ok, itoaF_eq acc h.a1 h.a2, itoaF_eq _ (by omega) (by omega)]

def saysF (s t : List UInt8) (n : Nat) (e : Int) (sh : List UInt8) : Bool := match runAll s 0 [] with
  | some (k, f, a, l) => decide (k = s.length ∧ f = 0) && (match runAll t a l with
    | some (k2, f2, a2, l2) => decide (k2 = n ∧ f2 = e) && decide (macTextF a2 l2 = sh)
    | none => false)
  | none => false

set_option maxRecDepth 100000 in
set_option maxHeartbeats 2000000 in
theorem says_any (w : World) (s t : List UInt8) (n : Nat) (e : Int) (sh : List UInt8) (hs : s.length < 1000) (ht : t.length < 1000) (hF : saysF s t n e sh = true) :
    Calls Try.prog 26 #[S s, S t, I n, I e, S sh] w fun r w' => r = .returned (.bool true) ∧ Below w.heap.size w w' := by
  unfold saysF at hF
  cases h1 : runAll s 0 [] with
  | none => rw [h1] at hF; cases hF
  | some r1 =>
    obtain ⟨k, f, a, l⟩ := r1
    rw [h1] at hF
    dsimp only at hF
    rw [Bool.and_eq_true, decide_eq_true_iff] at hF
    obtain ⟨⟨rfl, rfl⟩, hF⟩ := hF
    cases h2 : runAll t a l with
    | none => rw [h2] at hF; cases hF
    | some r2 =>
      obtain ⟨k2, f2, a2, l2⟩ := r2
      rw [h2] at hF
      dsimp only at hF
      rw [Bool.and_eq_true, decide_eq_true_iff, decide_eq_true_iff] at hF
      obtain ⟨⟨rfl, rfl⟩, rfl⟩ := hF
      have hz := str_size s
      go_enter Try.func26, Try.ntmps26
      go_wp2_with fail
      refine (ground_any w).mono ?_
      rintro e w1 ⟨p, rfl, s1, b1⟩
      go_wp2_with fail
      have s2 := s1.later ((Below.refl w1.heap.size w1).alloc (Nat.le_refl _) (.cells #[ptr p] 31))
      have b2 := b1.alloc b1.size (.cells #[ptr p] 31)
      clear s1 b1
      generalize w1.alloc (.cells #[ptr p] 31) = v2 at *
      refine (macNew _ v2 p s2).mono ?_
      rintro e w3 ⟨rfl, m3, b3⟩
      have b3' := b2.trans (b3.mono b2.size)
      clear b2 b3 s2
      generalize v2.heap.size = m at *
      go_wp2_with fail
      refine (run_any _ w3 m p 0 [] m3 s _ _ _ _ hs h1).mono ?_
      rintro e w4 ⟨rfl, m4, k4⟩
      have b4 := b3'.trans k4.below
      clear b3' m3 k4
      go_wp2_with fail
      refine (run_any _ w4 m p a l m4 t _ _ _ _ ht h2).mono ?_
      rintro e w5 ⟨rfl, m5, k5⟩
      have b5 := b4.trans k5.below
      clear b4 m4 k5
      go_wp2_with fail
      refine (macShow _ w5 m p a2 l2 m5).mono ?_
      rintro e w6 ⟨rfl, b6⟩
      rw [m5.text]
      go_wp2
      go_ret
      exact ⟨rfl, b5.trans (b6.mono b5.size)⟩

set_option maxHeartbeats 1000000 in
theorem noWord_any (w : World) (c : UInt8) (hF : saysF [35, 53, 83, 35, 49] [c] 0 9 [97, 99, 99, 61, 53, 32, 124, 32, 49, 32, 49] = true) :
    Calls Try.prog 27 #[S [c]] w fun r w' => r = .returned (.bool true) ∧ Below w.heap.size w w' := by
  go_enter Try.func27, Try.ntmps27
  go_wp2_with fail
  refine (says_any w [35, 53, 83, 35, 49] [c] 0 9 _ (by decide) (by simp) hF).mono ?_
  rintro r w1 ⟨rfl, b1⟩
  go_wp2
  go_ret
  exact ⟨rfl, b1⟩
end Go.Proofs.Qxb6500470a
