import Derived.Test.Qxb6500468aPk16
import Derived.Test.Qxb6500468aPk17
import Derived.Test.Qxb6500468aPk18
import Derived.Test.Qxb6500468aPk19
namespace Go.Proofs.Qxb6500468a
open Go.RowKit

/-- What Owed leaves, said by doP. -/
def OwedOk (K A B : Int) (S1 : List UInt8) (w : World) (g : Nat) (ds : List Int) (img : List UInt8) (u : Nat) (ws : List Nat) (e : Ending) (w' : World) : Prop :=
  e = .returned (AnsV (doP K A B S1 img (ds.getD 0 0) (ds.getD 1 0) (ds.getD 2 0) (ds.getD 3 0) (ds.getD 4 0) u ws).1.1 (doP K A B S1 img (ds.getD 0 0) (ds.getD 1 0) (ds.getD 2 0) (ds.getD 3 0) (ds.getD 4 0) u ws).1.2.1 (doP K A B S1 img (ds.getD 0 0) (ds.getD 1 0) (ds.getD 2 0) (ds.getD 3 0) (ds.getD 4 0) u ws).1.2.2) ∧
  ∃ us' hs', GhR w' g us' hs' ds img ∧ Tells (doP K A B S1 img (ds.getD 0 0) (ds.getD 1 0) (ds.getD 2 0) (ds.getD 3 0) (ds.getD 4 0) u ws).2.1 (doP K A B S1 img (ds.getD 0 0) (ds.getD 1 0) (ds.getD 2 0) (ds.getD 3 0) (ds.getD 4 0) u ws).2.2 us' hs' ∧ Upd [g] w w'
theorem sh0 : shH (unK 0) (unD 0) (unL 0) (unF 0) (unS 0) = shH 0 0 0 0 0 := rfl

theorem owed_any (w : World) (g : Nat) (us : List Bool) (hs ds : List Int) (img : List UInt8) (h : GhR w g us hs ds img) (u : Nat) (ws : List Nat) (ht : Tells u ws us hs) (hu : u < 256) (lw : ws.length = 8) (K A B C : Int) (S1 : List UInt8) (t : ByteArray)
    (hK : K = 4 ∨ K = 5 ∨ K = 6 ∨ K = 7 ∨ K = 8) : Calls Try.prog 43 #[ptr g, OpV K A B C (str S1) t] w fun e w' => OwedOk K A B S1 w g ds img u ws e w' := by
  unfold OwedOk
  rcases hK with rfl | rfl | rfl | rfl | rfl
  · have hd : Hid (ds.getD 0 0 = ds.getD 0 0 ∧ ds.getD 1 0 = ds.getD 1 0 ∧ ds.getD 2 0 = ds.getD 2 0 ∧ ds.getD 3 0 = ds.getD 3 0 ∧ ds.getD 4 0 = ds.getD 4 0) := ⟨rfl, rfl, rfl, rfl, rfl⟩
    by_cases hg : goodH (ds.getD 0 0) (ds.getD 1 0) (ds.getD 2 0) (ds.getD 3 0) (ds.getD 4 0)
    · have hg' := (goodB_iff _ _ _ _ _).2 hg
      by_cases hL : lowZ u = 8
      · have e1 : doP 4 A B S1 img (ds.getD 0 0) (ds.getD 1 0) (ds.getD 2 0) (ds.getD 3 0) (ds.getD 4 0) u ws = ((7, 0, []), u, ws) := by
          unfold doP; rw [if_pos rfl, hg', if_pos rfl, if_pos hL]
        rw [e1]
        refine (owed_4full w g us hs ds img h u ws ht hu A B C (str S1) t _ _ _ _ _ hd hg (by unfold frF; rw [if_pos hL])).mono ?_
        rintro e w' ⟨rfl, g', u'⟩
        exact ⟨rfl, us, hs, g', ht, u'⟩
      · have hl8 : lowZ u < 8 := by have := lowZ_le u hu; omega
        have e1 : doP 4 A B S1 img (ds.getD 0 0) (ds.getD 1 0) (ds.getD 2 0) (ds.getD 3 0) (ds.getD 4 0) u ws = ((0, ((lowZ u : Nat) : Int), []), u ||| 2 ^ lowZ u, ws.set (lowZ u) (packN (ds.getD 0 0) (ds.getD 1 0) (ds.getD 2 0) (ds.getD 3 0) (ds.getD 4 0))) := by
          unfold doP; rw [if_pos rfl, hg', if_pos rfl, if_neg hL]
        rw [e1]
        refine (owed_4put w g us hs ds img h u ws ht hu A B C (str S1) t _ _ _ _ _ hd hg (lowZ u) hl8 (by unfold frF; rw [if_neg hL])).mono ?_
        rintro e w' ⟨rfl, g', u'⟩
        have tp := ht.put hu lw h.l1 h.l2 (lowZ u) (packN (ds.getD 0 0) (ds.getD 1 0) (ds.getD 2 0) (ds.getD 3 0) (ds.getD 4 0)) hl8
        obtain ⟨q1, q2, q3, q4, q5⟩ := un_pack _ _ _ _ _ hg
        rw [q1, q2, q3, q4, q5] at tp
        exact ⟨rfl, _, _, g', tp, u'⟩
    · have hg' : goodB (ds.getD 0 0) (ds.getD 1 0) (ds.getD 2 0) (ds.getD 3 0) (ds.getD 4 0) = false := by
        rw [Bool.eq_false_iff]; exact fun e => hg ((goodB_iff _ _ _ _ _).1 e)
      have e1 : doP 4 A B S1 img (ds.getD 0 0) (ds.getD 1 0) (ds.getD 2 0) (ds.getD 3 0) (ds.getD 4 0) u ws = ((6, 0, []), u, ws) := by
        unfold doP; rw [if_pos rfl, hg', if_neg (by decide)]
      rw [e1]
      refine (owed_4bad w g us hs ds img h u ws ht hu A B C (str S1) t _ _ _ _ _ hd hg).mono ?_
      rintro e w' ⟨rfl, g', u'⟩
      exact ⟨rfl, us, hs, g', ht, u'⟩
  · have e1 : ∀ a b c d e, doP 5 A B S1 img a b c d e u ws = ((atF u A, 0, shH (unK (getE u ws A)) (unD (getE u ws A)) (unL (getE u ws A)) (unF (getE u ws A)) (unS (getE u ws A))), u, ws) := fun _ _ _ _ _ => rfl
    rw [e1]
    by_cases hA : A < 0 ∨ 8 ≤ A
    · have a1 : atF u A = 2 := by unfold atF; rw [if_pos hA]
      have a2 : getE u ws A = 0 := by unfold getE; rw [if_neg (by rw [a1]; decide)]
      rw [a1, a2, sh0]
      refine (owed_5none w g us hs ds img h u ws ht hu A B C (str S1) t hA).mono ?_
      rintro e w' ⟨rfl, g', u'⟩
      exact ⟨rfl, us, hs, g', ht, u'⟩
    · obtain ⟨i, rfl⟩ : ∃ i : Nat, A = (i : Int) := ⟨A.toNat, by omega⟩
      cases hb : u.testBit i
      · have a1 : atF u (i : Int) = 8 := by unfold atF; rw [if_neg hA, Int.toNat_natCast, hb]; rfl
        have a2 : getE u ws (i : Int) = 0 := by unfold getE; rw [if_neg (by rw [a1]; decide)]
        rw [a1, a2, sh0]
        refine (owed_5free w g us hs ds img h u ws ht hu i (by omega) B C (str S1) t hb).mono ?_
        rintro e w' ⟨rfl, g', u'⟩
        exact ⟨rfl, us, hs, g', ht, u'⟩
      · have a1 : atF u (i : Int) = 0 := by unfold atF; rw [if_neg hA, Int.toNat_natCast, hb]; rfl
        have a2 : getE u ws (i : Int) = ws.getD i 0 := by unfold getE; rw [if_pos a1, Int.toNat_natCast]
        rw [a1, a2]
        refine (owed_5used w g us hs ds img h u ws ht hu i (by omega) B C (str S1) t _ rfl hb).mono ?_
        rintro e w' ⟨rfl, g', u'⟩
        exact ⟨rfl, us, hs, g', ht, u'⟩
  · have e1 : ∀ a b c d e, doP 6 A B S1 img a b c d e u ws = ((atF u A, 0, []), (if atF u A = 0 then rmB u A.toNat else u), (if atF u A = 0 then ws.set A.toNat 0 else ws)) := fun _ _ _ _ _ => rfl
    rw [e1]
    by_cases hA : A < 0 ∨ 8 ≤ A
    · have a1 : atF u A = 2 := by unfold atF; rw [if_pos hA]
      rw [a1, if_neg (by decide), if_neg (by decide)]
      refine (owed_6none w g us hs ds img h u ws ht hu A B C (str S1) t hA).mono ?_
      rintro e w' ⟨rfl, g', u'⟩
      exact ⟨rfl, us, hs, g', ht, u'⟩
    · obtain ⟨i, rfl⟩ : ∃ i : Nat, A = (i : Int) := ⟨A.toNat, by omega⟩
      cases hb : u.testBit i
      · have a1 : atF u (i : Int) = 8 := by unfold atF; rw [if_neg hA, Int.toNat_natCast, hb]; rfl
        rw [a1, if_neg (by decide), if_neg (by decide)]
        refine (owed_6free w g us hs ds img h u ws ht hu i (by omega) B C (str S1) t hb).mono ?_
        rintro e w' ⟨rfl, g', u'⟩
        exact ⟨rfl, us, hs, g', ht, u'⟩
      · have a1 : atF u (i : Int) = 0 := by unfold atF; rw [if_neg hA, Int.toNat_natCast, hb]; rfl
        rw [a1, if_pos rfl, if_pos rfl, Int.toNat_natCast]
        refine (owed_6used w g us hs ds img h u ws ht hu i (by omega) B C (str S1) t hb).mono ?_
        rintro e w' ⟨rfl, g', u'⟩
        exact ⟨rfl, _, _, g', ht.drop hu lw h.l1 i (by omega), u'⟩
  · have e1 : ∀ a b c d e, doP 7 A B S1 img a b c d e u ws = ((atF u A, 0, []), u, (if atF u A = 0 then ws.set A.toNat (bumpN (ws.getD A.toNat 0) B) else ws)) := fun _ _ _ _ _ => rfl
    rw [e1]
    by_cases hA : A < 0 ∨ 8 ≤ A
    · have a1 : atF u A = 2 := by unfold atF; rw [if_pos hA]
      rw [a1, if_neg (by decide)]
      refine (owed_7none w g us hs ds img h u ws ht hu A B C (str S1) t hA).mono ?_
      rintro e w' ⟨rfl, g', u'⟩
      exact ⟨rfl, us, hs, g', ht, u'⟩
    · obtain ⟨i, rfl⟩ : ∃ i : Nat, A = (i : Int) := ⟨A.toNat, by omega⟩
      cases hb : u.testBit i
      · have a1 : atF u (i : Int) = 8 := by unfold atF; rw [if_neg hA, Int.toNat_natCast, hb]; rfl
        rw [a1, if_neg (by decide)]
        refine (owed_7free w g us hs ds img h u ws ht hu i (by omega) B C (str S1) t hb).mono ?_
        rintro e w' ⟨rfl, g', u'⟩
        exact ⟨rfl, us, hs, g', ht, u'⟩
      · have a1 : atF u (i : Int) = 0 := by unfold atF; rw [if_neg hA, Int.toNat_natCast, hb]; rfl
        rw [a1, if_pos rfl, Int.toNat_natCast]
        refine (owed_7used w g us hs ds img h u ws ht hu i (by omega) B C (str S1) t _ rfl hb).mono ?_
        rintro e w' ⟨rfl, g', u'⟩
        exact ⟨rfl, _, _, g', ht.turn lw h.l2 i _ (by omega), u'⟩
  · have e1 : ∀ a b c d e, doP 8 A B S1 img a b c d e u ws = ((0, ((popB u : Nat) : Int), []), u, ws) := fun _ _ _ _ _ => rfl
    rw [e1]
    refine (owed_8 w g us hs ds img h u ws ht hu A B C (str S1) t).mono ?_
    rintro e w' ⟨rfl, g', u'⟩
    exact ⟨rfl, us, hs, g', ht, u'⟩
end Go.Proofs.Qxb6500468a
