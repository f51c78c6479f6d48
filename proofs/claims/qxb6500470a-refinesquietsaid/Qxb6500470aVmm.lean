import Derived.Test.Qxb6500470aVme
import Derived.Test.Qxb6500470aVmf
import Derived.Test.Qxb6500470aVmg
import Derived.Test.Qxb6500470aVmh
import Derived.Test.Qxb6500470aVmi
import Derived.Test.Qxb6500470aVmj
import Derived.Test.Qxb6500470aVmk
import Derived.Test.Qxb6500470aVml
namespace Go.Proofs.Qxb6500470a
open Go.RowKit
theorem elems_app (c d : TV) : elems (appT c d) = elems c ++ elems d := by
  induction c with
  | cons a b _ ih => show a :: elems (appT b d) = (a :: elems b) ++ elems d; rw [ih]; rfl
  | _ => rfl
theorem mList {K : Nat → Prop} {W : World} {z : TV} {c3 : Value} {cs : List Value} (hz : z.isList = true) (hk : kidsM z ≠ []) (hks : MRs K W (kidsM z) cs) (hr : RowK K W c3 (kidsM z).length cs) : MR K W z (I 3) (I 0) (S []) c3 := by
  have h := MR.mk (x := z) (by cases z <;> first | (exact ⟨by show (-9223372036854775808 : Int) ≤ 0; omega, by show (0 : Int) ≤ 9223372036854775807; omega⟩) | cases hz) (fun e => absurd e hk) hks hr
  cases z with
  | cons a b => exact h
  | nil => exact h
  | _ => cases hz
theorem w00 : wrap64 (0 + 0) = 0 := by unfold wrap64; omega
theorem list_len (z : TV) (hz : z.isList = true) : (text z).length = (inner z).length + 2 := by
  cases z with
  | nil => rfl
  | cons a b => rw [text_cons]; simp
  | _ => cases hz
theorem plus_w (K : Nat → Prop) (w : World) (ks : ∀ k, K k → k < w.heap.size) (a b : TV) (a0 a1 a2 a3 b0 b1 b2 b3 : Value) (ha : MR K w a a0 a1 a2 a3) (hb : MR K w b b0 b1 b2 b3) (la : (text a).length ≤ 30) (lb : (text b).length ≤ 30) :
    Calls Try.prog 115 #[.agg #[a0, a1, a2, a3], .agg #[b0, b1, b2, b3]] w (PlusP K w a b) := by
  have sla : (strM a).length ≤ 100 := by
    cases a with
    | str s => have : (itoa s.length ++ [58] ++ s).length ≤ 30 := la
               show s.length ≤ 100
               simp at this; omega
    | _ => exact Nat.zero_le _
  have slb : (strM b).length ≤ 100 := by
    cases b with
    | str s => have : (itoa s.length ++ [58] ++ s).length ≤ 30 := lb
               show s.length ≤ 100
               simp at this; omega
    | _ => exact Nat.zero_le _
  have kla := kids_len a
  have klb := kids_len b
  obtain ⟨e0, e1, e2, -, ka0, csa, hka, hra⟩ := ha.open
  obtain ⟨f0, f1, f2, -, kb0, csb, hkb, hrb⟩ := hb.open
  obtain ⟨aa, ca, e3⟩ := hra.slice
  obtain ⟨ab, cb, f3⟩ := hrb.slice
  subst e0 e1 e2 f0 f1 f2
  by_cases h4 : tagM a = 4
  · have hp : plusT a b = .error 5 := by cases a <;> first | rfl | (exact absurd h4 (by simp [tagM]))
    unfold PlusP
    rw [hp]
    exact plus_e5 w _ _ _ _ _ _ _ _ _ _ _ _ _ _ e3 f3 (tag_in a) (by simp [hasT, h4])
  have hh : hasT (tagM a) 1 = true := by simp [hasT, h4]
  by_cases hne : tagM a ≠ tagM b
  · have hp : plusT a b = .error 6 := by
      cases a with
      | int n => cases b <;> first | rfl | (exact absurd rfl hne)
      | str n => cases b <;> first | rfl | (exact absurd rfl hne)
      | nil => cases b <;> first | rfl | (exact absurd rfl hne)
      | cons x y => cases b <;> first | rfl | (exact absurd rfl hne)
      | pair x y => exact absurd rfl h4
    unfold PlusP
    rw [hp]
    exact plus_e6 w _ _ _ _ _ _ _ _ _ _ _ _ _ _ e3 f3 (tag_in a) hh hne
  have he : tagM a = tagM b := Decidable.not_not.1 hne
  rw [← he]
  -- both without kids
  have hEE : ∀ z, rawAdd a b = .ok z → kidsM a = [] → kidsM b = [] → (text z).length ≤ 1000 → (∀ W, Below w.heap.size w W → MR K W z (I (tagM a)) (I (wrap64 (numM a + numM b))) (S (strM a ++ strM b)) (.slice none 0 0)) → Calls Try.prog 115 #[.agg #[I (tagM a), I (numM a), S (strM a), a3], .agg #[I (tagM a), I (numM b), S (strM b), b3]] w (PlusP K w a b) := by
    intro z hr h1 h2 hl hz
    rw [ka0 h1, kb0 h2]
    unfold PlusP plusT
    rw [hr]
    dsimp only
    by_cases h30 : (text z).length ≤ 30
    · rw [if_pos h30]
      exact plus_EEo K w ks _ _ _ _ _ z (tag_in a) hh sla slb hz hl h30
    · rw [if_neg h30]
      exact plus_EEb K w ks _ _ _ _ _ z (tag_in a) hh sla slb hz hl (by omega)
  -- two lists
  have hLL : a.isList = true → b.isList = true → Calls Try.prog 115 #[.agg #[I (tagM a), I (numM a), S (strM a), a3], .agg #[I (tagM a), I (numM b), S (strM b), b3]] w (PlusP K w a b) := by
    intro la' lb'
    have hza : tagM a = 3 ∧ numM a = 0 ∧ strM a = [] := by cases a <;> first | exact ⟨rfl, rfl, rfl⟩ | cases la'
    have hzb : numM b = 0 ∧ strM b = [] := by cases b <;> first | exact ⟨rfl, rfl⟩ | cases lb'
    obtain ⟨z, hr, hzl, hzk, hzi⟩ : ∃ z, rawAdd a b = .ok z ∧ z.isList = true ∧ kidsM z = kidsM a ++ kidsM b ∧ (inner z).length ≤ (inner a).length + 1 + (inner b).length := by
      cases a with
      | nil =>
        refine ⟨b, by simp [rawAdd, lb'], lb', ?_, ?_⟩
        · show kidsM b = [] ++ kidsM b
          rfl
        · omega
      | cons x y =>
        refine ⟨appT (.cons x y) b, by simp [rawAdd, lb'], rfl, ?_, inner_app _ _⟩
        have e := elems_app (.cons x y) b
        rw [kids_list (x := appT (.cons x y) b) rfl, e, kids_list (x := .cons x y) rfl, kids_list lb']
      | _ => cases la'
    have hl : (text z).length ≤ 1000 := by
      have h1 := list_len a la'
      have h2 := list_len b lb'
      have h3 := list_len z hzl
      omega
    have hmr : ∀ c3 (K' : Nat → Prop) W cs, MRs K' W (kidsM z) cs → kidsM z ≠ [] → RowK K' W c3 (kidsM z).length cs → MR K' W z (I (tagM a)) (I (wrap64 (numM a + numM b))) (S (strM a ++ strM b)) c3 := by
      intro c3 K' W cs h1 h2 h3
      rw [hza.1, hza.2.1, hza.2.2, hzb.1, hzb.2, w00]
      exact mList hzl h2 h1 h3
    by_cases h1 : kidsM a = []
    · by_cases h2 : kidsM b = []
      · refine hEE z hr h1 h2 hl ?_
        intro W _
        rw [hza.1, hza.2.1, hza.2.2, hzb.1, hzb.2, w00]
        rw [h1, h2] at hzk
        cases z with
        | nil => exact mNil K W
        | cons x y => cases hzk
        | _ => cases hzl
      · have hn : 0 < (kidsM b).length := List.length_pos_iff.2 h2
        obtain ⟨gb, cb', e, kgb, hle, hc, hlt⟩ := hrb.form hn
        rw [h1, List.nil_append] at hzk
        subst e
        rw [ka0 h1]
        have hz : ∀ g cap W, Below w.heap.size w W → W.ownsRow 0 137 4 (.slice (some ⟨g, 0, none⟩) (kidsM b).length cap) (kidsM b).length csb → MR (fun k => K k ∨ k = g) W z (I (tagM a)) (I (wrap64 (numM a + numM b))) (S (strM a ++ strM b)) (.slice (some ⟨g, 0, none⟩) (kidsM b).length cap) := by
          intro g cap W B hown
          refine hmr _ _ W csb ?_ (by rw [hzk]; exact h2) (by rw [hzk]; exact RowK.of_own hown (.inr rfl))
          rw [hzk]
          exact (hkb.kept (Kept.of_below B ks)).mono (fun _ e => .inl e)
        unfold PlusP plusT
        rw [hr]
        dsimp only
        by_cases h30 : (text z).length ≤ 30
        · rw [if_pos h30]
          exact plus_ENo K w ks _ _ _ _ _ z (tag_in a) hh sla slb gb _ cb' csb hlt hn (by omega) hkb.len hc hkb.cells1 hz hl h30
        · rw [if_neg h30]
          exact plus_ENb K w ks _ _ _ _ _ z (tag_in a) hh sla slb gb _ cb' csb hlt hn (by omega) hkb.len hc hkb.cells1 hz hl (by omega)
    · have hna : 0 < (kidsM a).length := List.length_pos_iff.2 h1
      obtain ⟨ga, ca', e, kga, hlea, hca, hlta⟩ := hra.form hna
      subst e
      by_cases h2 : kidsM b = []
      · rw [h2, List.append_nil] at hzk
        rw [kb0 h2]
        have hz : ∀ g cap W, Below w.heap.size w W → W.ownsRow 0 137 4 (.slice (some ⟨g, 0, none⟩) (kidsM a).length cap) (kidsM a).length csa → MR (fun k => K k ∨ k = g) W z (I (tagM a)) (I (wrap64 (numM a + numM b))) (S (strM a ++ strM b)) (.slice (some ⟨g, 0, none⟩) (kidsM a).length cap) := by
          intro g cap W B hown
          refine hmr _ _ W csa ?_ (by rw [hzk]; exact h1) (by rw [hzk]; exact RowK.of_own hown (.inr rfl))
          rw [hzk]
          exact (hka.kept (Kept.of_below B ks)).mono (fun _ e => .inl e)
        unfold PlusP plusT
        rw [hr]
        dsimp only
        by_cases h30 : (text z).length ≤ 30
        · rw [if_pos h30]
          exact plus_NEo K w ks _ _ _ _ _ z (tag_in a) hh sla slb ga _ ca' csa hlta hna (by omega) hka.len hca hka.cells1 hz hl h30
        · rw [if_neg h30]
          exact plus_NEb K w ks _ _ _ _ _ z (tag_in a) hh sla slb ga _ ca' csa hlta hna (by omega) hka.len hca hka.cells1 hz hl (by omega)
      · have hn : 0 < (kidsM b).length := List.length_pos_iff.2 h2
        obtain ⟨gb, cb', e, kgb, hle, hc, hlt⟩ := hrb.form hn
        subst e
        have hz : ∀ g cap W, Below w.heap.size w W → W.ownsRow 0 137 4 (.slice (some ⟨g, 0, none⟩) ((kidsM a).length + (kidsM b).length) cap) ((kidsM a).length + (kidsM b).length) (csa ++ csb) → MR (fun k => K k ∨ k = g) W z (I (tagM a)) (I (wrap64 (numM a + numM b))) (S (strM a ++ strM b)) (.slice (some ⟨g, 0, none⟩) ((kidsM a).length + (kidsM b).length) cap) := by
          intro g cap W B hown
          have kk := Kept.of_below B ks
          refine hmr _ _ W (csa ++ csb) ?_ (by rw [hzk]; simp [h1]) (by rw [hzk, List.length_append]; exact RowK.of_own hown (.inr rfl))
          rw [hzk]
          exact ((hka.kept kk).mono (fun _ e => .inl e)).append ((hkb.kept kk).mono (fun _ e => .inl e))
        unfold PlusP plusT
        rw [hr]
        dsimp only
        by_cases h30 : (text z).length ≤ 30
        · rw [if_pos h30]
          exact plus_NNo K w ks _ _ _ _ _ z (tag_in a) hh sla slb ga _ ca' csa hlta hna (by omega) hka.len hca hka.cells1 gb _ cb' csb hlt hn (by omega) hkb.len hc hkb.cells1 hz hl h30
        · rw [if_neg h30]
          exact plus_NNb K w ks _ _ _ _ _ z (tag_in a) hh sla slb ga _ ca' csa hlta hna (by omega) hka.len hca hka.cells1 gb _ cb' csb hlt hn (by omega) hkb.len hc hkb.cells1 hz hl (by omega)
  cases a with
  | int n =>
    cases b with
    | int m =>
      obtain ⟨z1, z2⟩ := w64_bounds (n + m)
      exact hEE (.int (wrap64 (n + m))) rfl rfl rfl (by have := int_len _ z1 z2; omega) (fun W _ => mInt K W _ z1 z2)
    | _ => exact absurd he (by simp [tagM])
  | str s =>
    cases b with
    | str t =>
      refine hEE (.str (s ++ t)) rfl rfl rfl ?_ (fun W _ => ?_)
      · have h1 : s.length ≤ 100 := sla
        have h2 : t.length ≤ 100 := slb
        have h3 := itoa_len ((s ++ t).length : Int) (by omega) (by simp; omega)
        rw [str_text]
        simp at h3 ⊢
        omega
      · have e : wrap64 (numM (.str s) + numM (.str t)) = 0 := w00
        rw [e]
        exact mStr K W (s ++ t)
    | _ => exact absurd he (by simp [tagM])
  | nil => exact hLL rfl (by cases b <;> first | rfl | (exact absurd he (by simp [tagM])))
  | cons x y => exact hLL rfl (by cases b <;> first | rfl | (exact absurd he (by simp [tagM])))
  | pair x y => exact absurd rfl h4
end Go.Proofs.Qxb6500470a
