import Derived.Test.Qxb6500468aPk21
import Derived.Test.Qxb6500468aPk22
import Derived.Test.Qxb6500468aPk23
namespace Go.Proofs.Qxb6500468a
open Go.RowKit

theorem kept_any (w : World) (x bw ub u : Nat) (ws : List Nat) (g : Nat) (us : List Bool) (hs ds : List Int) (img : List UInt8) (K A B C : Int) (S1 : List UInt8) (t : ByteArray) (r : (Int × Int × List UInt8) × Nat × List Nat)
    (hr : doP K A B S1 img (ds.getD 0 0) (ds.getD 1 0) (ds.getD 2 0) (ds.getD 3 0) (ds.getD 4 0) u ws = r) (hS : StoR w x bw ub r.2.1 r.2.2) (hg : GhR w g us hs ds img) (ht : Tells u ws us hs) (hu : u < 256) (lw : ws.length = 8) (hlt : ∀ i, ws.getD i 0 < 72057594037927936) (g1 : g ≠ x) (g2 : g ≠ bw) (g3 : g ≠ ub) :
    Calls Try.prog 30 #[ptr x, ptr g, OpV K A B C (str S1) t, AnsV r.1.1 r.1.2.1 r.1.2.2] w fun e w' => e = .returned (.bool true) ∧ Gone w g ds img r.2.1 r.2.2 w' := by
  subst hr
  have hl := hg.head.lt
  have low : ∀ (v : World), Below w.heap.size w v → ∀ v', Below v.heap.size v v' → Gone v g ds img u ws v' := fun v b v' b' => ⟨us, hs, (hg.later b).later b', ht, Upd.of_below b'⟩
  by_cases k4 : K = 4
  · subst k4
    exact kept_4 w x g hl ds img _ _ A B C _ t _ _ _ (fun v b => owed_any v g us hs ds img (hg.later b) u ws ht hu lw 4 A B C S1 t (by simp))
  by_cases k5 : K = 5
  · subst k5
    exact kept_5 w x g hl ds img _ _ A B C _ t _ _ _ (fun v b => owed_any v g us hs ds img (hg.later b) u ws ht hu lw 5 A B C S1 t (by simp))
  by_cases k6 : K = 6
  · subst k6
    exact kept_6 w x g hl ds img _ _ A B C _ t _ _ _ (fun v b => owed_any v g us hs ds img (hg.later b) u ws ht hu lw 6 A B C S1 t (by simp))
  by_cases k7 : K = 7
  · subst k7
    exact kept_7 w x g hl ds img _ _ A B C _ t _ _ _ (fun v b => owed_any v g us hs ds img (hg.later b) u ws ht hu lw 7 A B C S1 t (by simp))
  by_cases k8 : K = 8
  · subst k8
    exact kept_8 w x g hl ds img _ _ A B C _ t _ _ _ (fun v b => owed_any v g us hs ds img (hg.later b) u ws ht hu lw 8 A B C S1 t (by simp))
  by_cases k9 : K = 9
  · subst k9
    refine (kept_9 w x g hl A B C (str S1) t 0 0 (expB u ws 8) (fun v b => exported_any v g us hs ds img (hg.later b) u ws ht hlt)).mono ?_
    rintro e w' ⟨rfl, b'⟩
    exact ⟨rfl, low w (Below.refl _ _) w' b'⟩
  by_cases k10 : K = 10
  · subst k10
    by_cases hi : imgOk S1
    · have e1 : ∀ a b c d e, doP 10 A B S1 img a b c d e u ws = ((0, 0, []), impU S1 (S1.length / 8), impW S1 (S1.length / 8)) := fun _ _ _ _ _ => by
        show ((_, _, _), _, _) = _; rw [(imgB_iff _).2 hi]; rfl
      rw [e1] at hS ⊢
      exact kept_10 w x g ds img _ _ A B C _ t _ _ _ (fun v b => loaded_ok v x bw ub _ _ (hS.later b) S1 hi ⟨rfl, rfl⟩ g us hs ds img (hg.later b) g1 g2 g3 0 [])
    · have hb : imgB S1 = false := by rw [Bool.eq_false_iff]; exact fun e => hi ((imgB_iff _).1 e)
      have e1 : ∀ a b c d e, doP 10 A B S1 img a b c d e u ws = ((badE S1, 0, []), u, ws) := fun _ _ _ _ _ => by
        show ((_, _, _), _, _) = _; rw [hb]; rfl
      rw [e1] at hS ⊢
      exact kept_10 w x g ds img _ _ A B C _ t _ _ _ (fun v b => by
        refine (loaded_bad v x g S1 hi 0 []).mono ?_
        rintro e w' ⟨rfl, b'⟩
        exact ⟨rfl, low v b w' b'⟩)
  by_cases k11 : K = 11
  · subst k11
    by_cases hi : imgOk img
    · have e1 : ∀ a b c d e, doP 11 A B S1 img a b c d e u ws = ((0, 0, []), impU img (img.length / 8), impW img (img.length / 8)) := fun _ _ _ _ _ => by
        show ((_, _, _), _, _) = _; rw [(imgB_iff _).2 hi]; rfl
      rw [e1] at hS ⊢
      exact kept_11 w x g hl ds img us hs hg _ _ A B C _ t _ _ _ (fun v b => loaded_ok v x bw ub _ _ (hS.later b) img hi ⟨rfl, rfl⟩ g us hs ds img (hg.later b) g1 g2 g3 0 [])
    · have hb : imgB img = false := by rw [Bool.eq_false_iff]; exact fun e => hi ((imgB_iff _).1 e)
      have e1 : ∀ a b c d e, doP 11 A B S1 img a b c d e u ws = ((badE img, 0, []), u, ws) := fun _ _ _ _ _ => by
        show ((_, _, _), _, _) = _; rw [hb]; rfl
      rw [e1] at hS ⊢
      exact kept_11 w x g hl ds img us hs hg _ _ A B C _ t _ _ _ (fun v b => by
        refine (loaded_bad v x g img hi 0 []).mono ?_
        rintro e w' ⟨rfl, b'⟩
        exact ⟨rfl, low v b w' b'⟩)
  by_cases k14 : K = 14
  · subst k14
    refine (kept_14 w x g hl A B C (str S1) t 0 0 (showT u ws 8) (fun v b => spelt_any v g us hs ds img (hg.later b) u ws ht)).mono ?_
    rintro e w' ⟨rfl, b'⟩
    exact ⟨rfl, low w (Below.refl _ _) w' b'⟩
  by_cases k15 : K = 15
  · subst k15
    refine (kept_15 w x g A B C (str S1) t 0 []).mono ?_
    rintro e w' ⟨rfl, b'⟩
    exact ⟨rfl, low w (Below.refl _ _) w' b'⟩
  · have e1 : ∀ a b c d e, doP K A B S1 img a b c d e u ws = ((0, 0, []), u, ws) := fun _ _ _ _ _ => by
      unfold doP
      rw [if_neg k4, if_neg k5, if_neg k6, if_neg k7, if_neg k8, if_neg k9, if_neg k10, if_neg k11, if_neg k14, if_neg k15]
    rw [e1] at hS ⊢
    refine (kept_o w x g K A B C (str S1) t 0 0 [] k4 k5 k6 k7 k8 k9 k10 k11 k14 k15).mono ?_
    rintro e w' ⟨rfl, b'⟩
    exact ⟨rfl, low w (Below.refl _ _) w' b'⟩
end Go.Proofs.Qxb6500468a
