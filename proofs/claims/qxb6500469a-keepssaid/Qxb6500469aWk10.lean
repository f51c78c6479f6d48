import Derived.Test.Qxb6500469aWk9
namespace Go.Proofs.Qxb6500469a
open Go.RowKit

theorem calcP_err (r op v a p q : Int) (h : (calcP r op v a p q).1 ≠ 0) : (calcP r op v a p q).2 = (a, p, q) := by
  unfold calcP at *
  split
  · rfl
  · rename_i h1
    rw [if_neg h1] at h
    split
    · rfl
    · rename_i h2
      rw [if_neg h2] at h
      split
      · rename_i h3
        rw [if_pos h3] at h
        split
        · rfl
        · rename_i h4; rw [if_neg h4] at h; exact absurd rfl h
      · rename_i h3
        rw [if_neg h3] at h
        split
        · rename_i h4
          rw [if_pos h4] at h
          split
          · rfl
          · rename_i h5; rw [if_neg h5] at h; exact absurd rfl h
        · rename_i h4
          rw [if_neg h4] at h
          split
          · rfl
          · rename_i h5; rw [if_neg h5] at h; exact absurd rfl h
theorem calcP_ok (r op v a p q : Int) (h : (calcP r op v a p q).1 = 0) : 1 ≤ op ∧ op ≤ 8 ∧ ((r = 0 ∧ ¬ (t8 v = 0 ∧ (op = 5 ∨ op = 6)) ∧ calcP r op v a p q = (0, t8 (rawC op a (t8 v) (-128) 127), p, q)) ∨ (r = 1 ∧ ¬ (t16 v = 0 ∧ (op = 5 ∨ op = 6)) ∧ calcP r op v a p q = (0, a, t16 (rawC op p (t16 v) (-32768) 32767), q)) ∨ (r = 2 ∧ ¬ (tU v = 0 ∧ (op = 5 ∨ op = 6)) ∧ calcP r op v a p q = (0, a, p, tU (rawC op q (tU v) 0 65535)))) := by
  unfold calcP at *
  by_cases h1 : r < 0 ∨ 3 ≤ r
  · rw [if_pos h1] at h; cases h
  rw [if_neg h1] at h ⊢
  by_cases h2 : op < 1 ∨ 8 < op
  · rw [if_pos h2] at h; cases h
  rw [if_neg h2] at h ⊢
  refine ⟨by omega, by omega, ?_⟩
  by_cases h3 : r = 0
  · rw [if_pos h3] at h ⊢
    by_cases h4 : t8 v = 0 ∧ (op = 5 ∨ op = 6)
    · rw [if_pos h4] at h; cases h
    · rw [if_neg h4]; exact .inl ⟨h3, h4, rfl⟩
  rw [if_neg h3] at h ⊢
  by_cases h5 : r = 1
  · rw [if_pos h5] at h ⊢
    by_cases h4 : t16 v = 0 ∧ (op = 5 ∨ op = 6)
    · rw [if_pos h4] at h; cases h
    · rw [if_neg h4]; exact .inr (.inl ⟨h5, h4, rfl⟩)
  rw [if_neg h5] at h ⊢
  by_cases h4 : tU v = 0 ∧ (op = 5 ∨ op = 6)
  · rw [if_pos h4] at h; cases h
  · rw [if_neg h4]; exact .inr (.inr ⟨by omega, h4, rfl⟩)
def KnOk (w : World) (b : Nat) (K A B C : Int) (s t : ByteArray) (a p q : Int) (r : AnsT × BrdT) : Prop :=
  Calls Try.prog 21 #[ptr b, OpV K A B C s t, AnsV r.1.1 r.1.2.1 r.1.2.2.1 r.1.2.2.2, .agg #[I a, I p, I q]] w fun e w' => e = .returned (.bool true) ∧ Below w.heap.size w w'
set_option maxHeartbeats 2000000 in
theorem keptNums_any (w : World) (b : Nat) (K A B C : Int) (s t : ByteArray) (u : Nat) (a p q : Int) (v : Nat) (ba : -128 ≤ a ∧ a ≤ 127) (bp : -32768 ≤ p ∧ p ≤ 32767) (bq : 0 ≤ q ∧ q ≤ 65535) (r : AnsT × BrdT) (hr : actW K A B C u a p q v = r) (h : BdR w b r.2.1 r.2.2.1 r.2.2.2.1 r.2.2.2.2) (h1 : K = 1 → a = 0 ∧ p = 0 ∧ q = 0) : KnOk w b K A B C s t a p q r := by
  by_cases k16 : K = 16
  · subst k16
    subst hr
    have e1 : actW 16 A B C u a p q v = (((calcP A B C a p q).1, 0, 0, []), (u, (calcP A B C a p q).2)) := rfl
    unfold KnOk
    rw [e1] at h ⊢
    dsimp only at h ⊢
    have hD := dueCalc_any A B C a p q
    by_cases hz : (calcP A B C a p q).1 = 0
    · obtain ⟨o1, o8, hc⟩ := calcP_ok A B C a p q hz
      rcases hc with ⟨rfl, z, e⟩ | ⟨rfl, z, e⟩ | ⟨rfl, z, e⟩
      · rw [e] at h hD ⊢
        exact kn_16k w b u _ _ _ h B C s t 0 0 [] a p q 0 (by decide) (-128) 127 a _ (t8 C) (.inl rfl) (.inr rfl) (.inr rfl) rfl rfl hD (fun W => ends_any 0 W) (into8 C) (worked8 B a (t8 C) ba (t8_in C) o1 o8 z)
      · rw [e] at h hD ⊢
        exact kn_16k w b u _ _ _ h B C s t 0 0 [] a p q 1 (by decide) (-32768) 32767 p _ (t16 C) (.inr rfl) (.inl rfl) (.inr rfl) rfl rfl hD (fun W => ends_any 1 W) (into16 C) (worked16 B p (t16 C) bp (t16_in C) o1 o8 z)
      · rw [e] at h hD ⊢
        exact kn_16k w b u _ _ _ h B C s t 0 0 [] a p q 2 (by decide) 0 65535 q _ (tU C) (.inr rfl) (.inr rfl) (.inl rfl) rfl rfl hD (fun W => ends_any 2 W) (intoU C) (workedU B q (tU C) bq (tU_in C) o1 o8 z)
    · have e2 := calcP_err A B C a p q hz
      rw [e2] at h
      exact kn_16e w b u a p q h A B C s t _ 0 0 [] a p q (.inr rfl) (.inr rfl) (.inr rfl) hz hD
  by_cases k17 : K = 17
  · subst k17
    subst hr
    have e1 : actW 17 A B C u a p q v = (((moveP A B a p q).1, 0, 0, []), (u, (moveP A B a p q).2)) := rfl
    unfold KnOk
    rw [e1] at h ⊢
    dsimp only at h ⊢
    unfold moveP at h ⊢
    by_cases c1 : A < 0
    · rw [if_pos (.inl c1)] at h ⊢
      exact kn_17e0 w b u A B C s t 0 0 [] a p q h c1
    by_cases c2 : 3 ≤ A
    · rw [if_pos (.inr (.inl c2))] at h ⊢
      exact kn_17e1 w b u A B C s t 0 0 [] a p q h c2 c1
    by_cases c3 : B < 0
    · rw [if_pos (.inr (.inr (.inl c3)))] at h ⊢
      exact kn_17e2 w b u A B C s t 0 0 [] a p q h c3 c1 c2
    by_cases c4 : 3 ≤ B
    · rw [if_pos (.inr (.inr (.inr c4)))] at h ⊢
      exact kn_17e3 w b u A B C s t 0 0 [] a p q h c4 c1 c2 c3
    rw [if_neg (by omega)] at h ⊢
    obtain ⟨ff, rfl⟩ := Int.eq_ofNat_of_zero_le (show 0 ≤ A by omega)
    have hcw : (#[I a, I p, I q] : Array Value)[ff]? = some (I (regAt (ff : Int) a p q)) := by
      have : ff = 0 ∨ ff = 1 ∨ ff = 2 := by omega
      rcases this with rfl | rfl | rfl <;> rfl
    have bx : -65536 ≤ regAt (ff : Int) a p q ∧ regAt (ff : Int) a p q ≤ 65536 := by
      have : ff = 0 ∨ ff = 1 ∨ ff = 2 := by omega
      rcases this with rfl | rfl | rfl
      · show -65536 ≤ a ∧ a ≤ 65536; omega
      · show -65536 ≤ p ∧ p ≤ 65536; omega
      · show -65536 ≤ q ∧ q ≤ 65536; omega
    generalize regAt (ff : Int) a p q = x at *
    have hB : B = 0 ∨ B = 1 ∨ B = 2 := by omega
    rcases hB with rfl | rfl | rfl
    · have b2 := t8_in x
      exact kn_17k w b u (t8 x) p q h C s t 0 0 [] a p q ff 0 (by omega) (by decide) (-128) 127 x (t8 x) 256 (.inl rfl) (.inr rfl) (.inr rfl) hcw rfl (by decide) (by decide) (by decide) bx (by omega) (modS x 256 _ ⟨-((x + 128) / 256), by unfold t8; omega⟩) (fun W => ends_any 0 W)
    · have b2 := t16_in x
      exact kn_17k w b u a (t16 x) q h C s t 0 0 [] a p q ff 1 (by omega) (by decide) (-32768) 32767 x (t16 x) 65536 (.inr rfl) (.inl rfl) (.inr rfl) hcw rfl (by decide) (by decide) (by decide) bx (by omega) (modS x 65536 _ ⟨-((x + 32768) / 65536), by unfold t16; omega⟩) (fun W => ends_any 1 W)
    · have b2 := tU_in x
      exact kn_17k w b u a p (tU x) h C s t 0 0 [] a p q ff 2 (by omega) (by decide) 0 65535 x (tU x) 65536 (.inr rfl) (.inr rfl) (.inl rfl) hcw rfl (by decide) (by decide) (by decide) bx (by omega) (modS x 65536 _ ⟨-(x / 65536), by unfold tU; omega⟩) (fun W => ends_any 2 W)
  by_cases k20 : K = 20
  · subst k20
    subst hr
    exact kn_20 w b 0 h A B C s t 0 0 0 [] a p q
  have same : r.2.2 = (a, p, q) := by
    subst hr
    unfold actW
    by_cases j3 : K = 3
    · rw [if_pos j3]
      by_cases c : 0 ≤ A ∧ A < 64
      · rw [if_pos c]
      · rw [if_neg c]
    rw [if_neg j3]
    by_cases j4 : K = 4
    · rw [if_pos j4]
      by_cases c : 0 ≤ A ∧ A < 64
      · rw [if_pos c]
      · rw [if_neg c]
    rw [if_neg j4]
    by_cases j5 : K = 5
    · rw [if_pos j5]
      by_cases c : 0 ≤ A ∧ A < 64
      · rw [if_pos c]
      · rw [if_neg c]
    rw [if_neg j5]
    by_cases j6 : K = 6
    · rw [if_pos j6]
    rw [if_neg j6]
    by_cases j7 : K = 7
    · rw [if_pos j7]
      by_cases c : A = 0
      · rw [if_pos c]
      rw [if_neg c]
      by_cases d : A = 1
      · rw [if_pos d]
      · rw [if_neg d]
    rw [if_neg j7]
    by_cases j8 : K = 8
    · rw [if_pos j8]
      by_cases c : A = 0
      · rw [if_pos c]
      rw [if_neg c]
      by_cases d : A = 1
      · rw [if_pos d]
      · rw [if_neg d]
    rw [if_neg j8]
    by_cases j9 : K = 9
    · rw [if_pos j9]
      by_cases c : A = 0
      · rw [if_pos c]
      rw [if_neg c]
      by_cases d : A = 1
      · rw [if_pos d]
      · rw [if_neg d]
    rw [if_neg j9]
    by_cases j10 : K = 10
    · rw [if_pos j10]
    rw [if_neg j10]
    by_cases j11 : K = 11
    · rw [if_pos j11]
      by_cases c : A < -64 ∨ 64 < A
      · rw [if_pos c]
      rw [if_neg c]
      by_cases d : 0 ≤ A
      · rw [if_pos d]
      · rw [if_neg d]
    rw [if_neg j11]
    by_cases j12 : K = 12
    · rw [if_pos j12]
    rw [if_neg j12]
    by_cases j13 : K = 13
    · rw [if_pos j13]
    rw [if_neg j13]
    by_cases j14 : K = 14
    · rw [if_pos j14]
    rw [if_neg j14]
    by_cases j15 : K = 15
    · rw [if_pos j15]
    rw [if_neg j15]
    rw [if_neg k16]
    rw [if_neg k17]
    by_cases j18 : K = 18
    · rw [if_pos j18]
    rw [if_neg j18]
    by_cases j19 : K = 19
    · rw [if_pos j19]
    rw [if_neg j19]
    rw [if_neg k20]
    by_cases j21 : K = 21
    · rw [if_pos j21]
    rw [if_neg j21]
    by_cases j22 : K = 22
    · rw [if_pos j22]
    rw [if_neg j22]
  by_cases k1 : K = 1
  · obtain ⟨rfl, rfl, rfl⟩ := h1 k1
    subst k1
    rw [same] at h
    subst hr
    exact kn_1 w b u h A B C s t 0 0 0 [] 0 0 0
  by_cases k18 : K = 18
  · subst k18
    subst hr
    exact kn_18 w b u a p q h A B C s t 0 _ 0 [] a p q rfl (.inr rfl) (.inr rfl) (.inr rfl)
  by_cases k19 : K = 19
  · subst k19
    subst hr
    exact kn_19 w b u a p q h A B C s t a p q (.inr rfl) (.inr rfl) (.inr rfl)
  rw [same] at h
  exact kn_o w b _ a p q h K A B C s t _ _ _ _ a p q (.inr rfl) (.inr rfl) (.inr rfl) k16 k17 k20 k1 k18 k19
end Go.Proofs.Qxb6500469a
