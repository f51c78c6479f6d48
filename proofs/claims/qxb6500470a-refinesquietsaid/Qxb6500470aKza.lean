import Derived.Test.Qxb6500470aKz9a
import Derived.Test.Qxb6500470aKz9b
import Derived.Test.Qxb6500470aKz9c
import Derived.Test.Qxb6500470aKz9d
import Derived.Test.Qxb6500470aKz9e
import Derived.Test.Qxb6500470aKz9f
import Derived.Test.Qxb6500470aKz9g
import Derived.Test.Qxb6500470aKz9h
namespace Go.Proofs.Qxb6500470a
open Go.RowKit
theorem wordT_ok (c : UInt8) (s : List UInt8) (acc : Int) (st : List TV) (hw : IsW c s) (h : (wordT c s acc st).2.1 = 0) : wordT c s acc st = (s.length + 1, 0, (wordT c s acc st).2.2.1, (wordT c s acc st).2.2.2) := by
  by_cases h32 : c = 32
  · subst h32
    have : (1 : Nat) = 1 + s.length := hw
    have e : s.length + 1 = 1 := by omega
    rw [e]
    rfl
  · unfold wordT at h ⊢
    rw [if_neg h32] at h ⊢
    by_cases h1 : (stepT c (c :: s) 0 acc st).2.1 = 0
    · rw [if_pos h1, Nat.add_comm]
    · rw [if_neg h1] at h; exact absurd h h1
theorem wordT_bad (c : UInt8) (s : List UInt8) (acc : Int) (st : List TV) (h : (wordT c s acc st).2.1 ≠ 0) : wordT c s acc st = (0, (wordT c s acc st).2.1, acc, st) := by
  unfold wordT at h ⊢
  by_cases h32 : c = 32
  · rw [if_pos h32] at h; exact absurd rfl h
  · rw [if_neg h32] at h ⊢
    by_cases h1 : (stepT c (c :: s) 0 acc st).2.1 = 0
    · rw [if_pos h1] at h; exact absurd rfl h
    · rw [if_neg h1]
theorem reg_ok (c : UInt8) (s : List UInt8) (acc : Int) (st : List TV) (lit : Bool) (hc : c = 83 ∨ c = 68 ∨ c = 77) (ho : owesT c lit (topT st).1 (topT st).2 = 0) :
    ∃ n r, st = .int n :: r ∧ topT st = (n, 0) ∧ (c ≠ 83 → n ≠ 0) ∧ wordT c s acc st = (s.length + 1, 0, (regT c acc st).1, r) ∧ (c = 83 → (regT c acc st).1 = n) ∧ (c = 68 → (regT c acc st).1 = wrap64 (acc.tdiv n)) ∧ (c = 77 → (regT c acc st).1 = acc.tmod n) := by
  have hs : stepT c (c :: s) 0 acc st = (1, (regT c acc st).2.2, (regT c acc st).1, (regT c acc st).2.1) := by rcases hc with rfl | rfl | rfl <;> rfl
  have h32 : c ≠ 32 := by rcases hc with rfl | rfl | rfl <;> decide
  have e : owesT c lit (topT st).1 (topT st).2 = if (topT st).2 ≠ 0 then (topT st).2 else if c ≠ 83 ∧ (topT st).1 = 0 then 10 else 0 := by rcases hc with rfl | rfl | rfl <;> rfl
  rw [e] at ho
  by_cases h1 : (topT st).2 ≠ 0
  · rw [if_pos h1] at ho; exact absurd ho h1
  rw [if_neg h1] at ho
  obtain ⟨n, r, rfl, e⟩ := topT_zero (Decidable.not_not.1 h1)
  have hn : c ≠ 83 → n ≠ 0 := by
    intro hc hn
    rw [if_pos ⟨hc, hn⟩] at ho
    cases ho
  have hr : (regT c acc (.int n :: r)).2.2 = 0 ∧ (regT c acc (.int n :: r)).2.1 = r ∧ (c = 83 → (regT c acc (.int n :: r)).1 = n) ∧ (c = 68 → (regT c acc (.int n :: r)).1 = wrap64 (acc.tdiv n)) ∧ (c = 77 → (regT c acc (.int n :: r)).1 = acc.tmod n) := by
    unfold regT
    rw [if_neg h1]
    by_cases h3 : c = 83
    · rw [if_pos h3]
      subst h3
      exact ⟨rfl, rfl, fun _ => rfl, fun e => absurd e (by decide), fun e => absurd e (by decide)⟩
    · rw [if_neg h3, if_neg (show ¬ (topT (.int n :: r)).1 = 0 from hn h3)]
      by_cases h4 : c = 68
      · rw [if_pos h4]
        subst h4
        exact ⟨rfl, rfl, fun e => absurd e (by decide), fun _ => rfl, fun e => absurd e (by decide)⟩
      · rw [if_neg h4]
        exact ⟨rfl, rfl, fun e => absurd e h3, fun e => absurd e h4, fun _ => rfl⟩
  refine ⟨n, r, rfl, rfl, hn, ?_, hr.2.2⟩
  unfold wordT
  rw [if_neg h32, hs]
  dsimp only
  rw [hr.1, if_pos rfl, hr.2.1, Nat.add_comm]
theorem held_any {L : Nat → Prop} {w : World} {m2 p2 p3 : Nat} {acc : Int} {st : List TV} (h : YZ L w m2 p2 p3 acc st st) (c : UInt8) (s : List UInt8) (hs : s.length < 24) (hw : IsW c s) :
    Calls Try.prog 67 #[ptr m2, yv p2, yv p3, I acc, S (c :: s)] w (HP L w m2 p2 p3 (wordT c s acc st).2.1 (wordT c s acc st).2.2.1 (wordT c s acc st).2.2.2) := by
  have hR := run_word c s acc st hw hs
  by_cases h32 : c = 32
  · subst h32
    have e := wordT_ok 32 s acc st hw rfl
    exact held_D32 h s hs (hR.trans e) _ rfl rfl
  by_cases h59 : c = 59
  · subst h59
    have e := wordT_ok 59 s acc st hw rfl
    exact held_E59 h s hs (hR.trans e) _ rfl rfl
  by_cases h33 : c = 33
  · subst h33
    have e := wordT_ok 33 s acc st hw rfl
    exact held_E33 h s hs (hR.trans e) _ rfl rfl
  by_cases h35 : c = 35
  · subst h35
    have hw35 : wdL s = s.length := by have : 1 + wdL s = 1 + s.length := hw; omega
    have law := lawW_any 35 s acc st hw (litL s).isSome (by rw [if_pos rfl])
    have ha := word_acc 35 s acc st (by decide) (by decide) (by decide) (by decide)
    cases hq : (litL s).isSome with
    | false =>
      rw [hq] at law
      have e := law.1 (by show (11 : Int) ≠ 0; decide) (by decide)
      rw [e]
      exact held_A35 h s hs hw35 11 (by decide) (hR.trans e) hq rfl
    | true =>
      rw [hq] at law
      have hP : ∀ v, (∀ q, litL s = some q → v = q.2) → playT 35 v s st = ((wordT 35 s acc st).2.2.2, (wordT 35 s acc st).2.1) := fun v hv => law.2 rfl (by decide) (by decide) (by decide) v (fun _ => hv) (fun e => absurd rfl e)
      by_cases h0 : (wordT 35 s acc st).2.1 = 0
      · have e := wordT_ok 35 s acc st hw h0
        rw [ha] at e ⊢
        rw [h0] at hP ⊢
        exact held_C0 h s hs hw35 _ (hR.trans e) hq rfl hP
      · have e := wordT_bad 35 s acc st h0
        have e4 : (wordT 35 s acc st).2.2.2 = st := by rw [e]
        rw [e4] at hP ⊢
        rw [ha]
        exact held_C1 h s hs hw35 _ h0 (hR.trans e) hq rfl hP
  have law := lawW_any c s acc st hw (decide (s.length = 1)) (by rw [if_neg h35])
  have hreg : (c = 83 ∨ c = 68 ∨ c = 77) → Calls Try.prog 67 #[ptr m2, yv p2, yv p3, I acc, S (c :: s)] w (HP L w m2 p2 p3 (wordT c s acc st).2.1 (wordT c s acc st).2.2.1 (wordT c s acc st).2.2.2) := by
    intro hc
    obtain ⟨K, mt, -⟩ := h.turnY
    by_cases ho : owesT c (decide (s.length = 1)) (topT st).1 (topT st).2 = 0
    · obtain ⟨n, r, rfl, et, hn, e, r1, r2, r3⟩ := reg_ok c s acc st _ hc ho
      have hP := law.2 ho h32 h59 h33 acc (fun e => absurd e h35) (fun _ => rfl)
      obtain ⟨n1, n2⟩ := mt.st.topB
      have h5 : r.length < 5 := by have := mt.st.le; simp at this; omega
      rw [e] at hP ⊢
      have hR' := hR.trans e
      rcases hc with rfl | rfl | rfl
      · rw [r1 rfl] at hR' ⊢
        exact held_F83 h s hs _ r hR' h5 (fun W => moved_S acc n W) _ rfl ho hP
      · rw [r2 rfl] at hR' ⊢
        exact held_F68 h s hs _ r hR' h5 (fun W => moved_D acc n (hn (by decide)) mt.a1 mt.a2 n1 n2 W) _ rfl ho hP
      · rw [r3 rfl] at hR' ⊢
        exact held_F77 h s hs _ r hR' h5 (fun W => moved_M acc n (hn (by decide)) mt.a1 mt.a2 n1 n2 W) _ rfl ho hP
    · have e := law.1 ho h32
      rw [e]
      have hR' := hR.trans e
      rcases hc with rfl | rfl | rfl
      · exact held_A83 h s hs _ ho hR' _ rfl rfl
      · exact held_A68 h s hs _ ho hR' _ rfl rfl
      · exact held_A77 h s hs _ ho hR' _ rfl rfl
  by_cases h83 : c = 83
  · exact hreg (.inl h83)
  by_cases h68 : c = 68
  · exact hreg (.inr (.inl h68))
  by_cases h77 : c = 77
  · exact hreg (.inr (.inr h77))
  have ha := word_acc c s acc st h33 h83 h68 h77
  by_cases ho : owesT c (decide (s.length = 1)) (topT st).1 (topT st).2 = 0
  · have hP := law.2 ho h32 h59 h33 acc (fun e => absurd e h35) (fun _ => rfl)
    have h39 : c = 39 → s.length ≤ 6 := by
      rintro rfl
      have : (if s = [] then 1 else 2) = 1 + s.length := hw
      split at this <;> omega
    by_cases h0 : (wordT c s acc st).2.1 = 0
    · have e := wordT_ok c s acc st hw h0
      rw [ha] at e ⊢
      rw [h0] at hP ⊢
      exact held_B0 h c h35 h32 h59 h33 h83 h68 h77 s hs _ (hR.trans e) _ rfl ho hP h39
    · have e := wordT_bad c s acc st h0
      have e4 : (wordT c s acc st).2.2.2 = st := by rw [e]
      rw [e4] at hP ⊢
      rw [ha]
      exact held_B1 h c h35 h32 h59 h33 h83 h68 h77 s hs _ h0 (hR.trans e) _ rfl ho hP h39
  · have e := law.1 ho h32
    rw [e]
    exact held_A h c h35 h32 h59 h33 h83 h68 h77 s hs _ ho (hR.trans e) _ rfl rfl
end Go.Proofs.Qxb6500470a
