import Derived.Test.Qxb6500474aRows
import Derived.WalkKit
namespace Go.Proofs.Qxb6500474a
open Go.RowKit

theorem bcell {W w1 : World} (hb : Below W.heap.size W w1) : (∀ b o, b < W.heap.size → w1.cell? ⟨b, o, none⟩ = W.cell? ⟨b, o, none⟩) ∧ (∀ b o, b < W.heap.size → w1.frozen? ⟨b, o, none⟩ = W.frozen? ⟨b, o, none⟩) :=
  ⟨fun b o h => hb.cell (p := ⟨b, o, none⟩) h, fun b o h => hb.frozen (p := ⟨b, o, none⟩) h⟩

abbrev I (n : Int) : Value := .int .i64 n
def mN (an bn : Int) : Int := if an = 0 then bn else if bn = 0 then an else an + bn
def mL (an al bn bl : Int) : Int := if an = 0 then bl else if bn = 0 then al else if bl < al then bl else al
def mH (an al bn bl : Int) : Int := if an = 0 then bl else if bn = 0 then al else if bl > al then bl else al
def mE (an ae bn be : Int) : Int := if an = 0 then be else if bn = 0 then ae else ae + be

set_option maxHeartbeats 1000000 in
theorem merge (an al ah ae bn bl bh be : Int) (w : World) (h1 : 0 ≤ an) (h2 : an ≤ 1000) (h3 : 0 ≤ bn) (h4 : bn ≤ 1000) (h5 : 0 ≤ ae) (h6 : ae ≤ 1000) (h7 : 0 ≤ be) (h8 : be ≤ 1000) :
    Calls Try.prog 31 #[.agg #[I an, I al, I ah, I ae], .agg #[I bn, I bl, I bh, I be]] w fun e w' => e = .returned (.agg #[I (mN an bn), I (mL an al bn bl), I (mH an ah bn bh), I (mE an ae bn be)]) ∧ Below w.heap.size w w' := by
  by_cases ha : an = 0
  · have e1 : mN an bn = bn := by simp [mN, ha]
    have e2 : mL an al bn bl = bl := by simp [mL, ha]
    have e3 : mH an ah bn bh = bh := by simp [mH, ha]
    have e4 : mE an ae bn be = be := by simp [mE, ha]
    rw [e1, e2, e3, e4]; clear e1 e2 e3 e4
    go_enter Try.func31, Try.ntmps31
    go_wp2
    exact bodyPost_ret (v := .agg #[I bn, I bl, I bh, I be]) (by simp [results, Try.results31, go_sem]) rfl ⟨rfl, by repeat (first | exact Below.refl _ _ | apply Below.drew | (refine Below.alloc ?_ (by simp <;> omega) _) | (refine Below.setCell ?_ (by simp <;> omega) _))⟩
  by_cases hb : bn = 0
  · have e1 : mN an bn = an := by simp [mN, ha, hb]
    have e2 : mL an al bn bl = al := by simp [mL, ha, hb]
    have e3 : mH an ah bn bh = ah := by simp [mH, ha, hb]
    have e4 : mE an ae bn be = ae := by simp [mE, ha, hb]
    rw [e1, e2, e3, e4]; clear e1 e2 e3 e4
    go_enter Try.func31, Try.ntmps31
    go_wp2
    exact bodyPost_ret (v := .agg #[I an, I al, I ah, I ae]) (by simp [results, Try.results31, go_sem]) rfl ⟨rfl, by repeat (first | exact Below.refl _ _ | apply Below.drew | (refine Below.alloc ?_ (by simp <;> omega) _) | (refine Below.setCell ?_ (by simp <;> omega) _))⟩
  have e1 : mN an bn = an + bn := by simp [mN, ha, hb]
  have e4 : mE an ae bn be = ae + be := by simp [mE, ha, hb]
  rw [e1, e4]; clear e1 e4
  by_cases hl : bl < al
  · by_cases hh : ah < bh
    · skip
      have e2 : mL an al bn bl = bl := by simp [mL, ha, hb]; try omega
      have e3 : mH an ah bn bh = bh := by simp [mH, ha, hb]; try omega
      rw [e2, e3]; clear e2 e3
      go_enter Try.func31, Try.ntmps31
      go_wp2
      exact bodyPost_ret (v := .agg #[I (an + bn), I bl, I bh, I (ae + be)]) (by simp [results, Try.results31, go_sem]) rfl ⟨rfl, by repeat (first | exact Below.refl _ _ | apply Below.drew | (refine Below.alloc ?_ (by simp <;> omega) _) | (refine Below.setCell ?_ (by simp <;> omega) _))⟩
    · skip
      have e2 : mL an al bn bl = bl := by simp [mL, ha, hb]; try omega
      have e3 : mH an ah bn bh = ah := by simp [mH, ha, hb]; try omega
      rw [e2, e3]; clear e2 e3
      go_enter Try.func31, Try.ntmps31
      go_wp2
      exact bodyPost_ret (v := .agg #[I (an + bn), I bl, I ah, I (ae + be)]) (by simp [results, Try.results31, go_sem]) rfl ⟨rfl, by repeat (first | exact Below.refl _ _ | apply Below.drew | (refine Below.alloc ?_ (by simp <;> omega) _) | (refine Below.setCell ?_ (by simp <;> omega) _))⟩
  · by_cases hh : ah < bh
    · skip
      have e2 : mL an al bn bl = al := by simp [mL, ha, hb]; try omega
      have e3 : mH an ah bn bh = bh := by simp [mH, ha, hb]; try omega
      rw [e2, e3]; clear e2 e3
      go_enter Try.func31, Try.ntmps31
      go_wp2
      exact bodyPost_ret (v := .agg #[I (an + bn), I al, I bh, I (ae + be)]) (by simp [results, Try.results31, go_sem]) rfl ⟨rfl, by repeat (first | exact Below.refl _ _ | apply Below.drew | (refine Below.alloc ?_ (by simp <;> omega) _) | (refine Below.setCell ?_ (by simp <;> omega) _))⟩
    · skip
      have e2 : mL an al bn bl = al := by simp [mL, ha, hb]; try omega
      have e3 : mH an ah bn bh = ah := by simp [mH, ha, hb]; try omega
      rw [e2, e3]; clear e2 e3
      go_enter Try.func31, Try.ntmps31
      go_wp2
      exact bodyPost_ret (v := .agg #[I (an + bn), I al, I ah, I (ae + be)]) (by simp [results, Try.results31, go_sem]) rfl ⟨rfl, by repeat (first | exact Below.refl _ _ | apply Below.drew | (refine Below.alloc ?_ (by simp <;> omega) _) | (refine Below.setCell ?_ (by simp <;> omega) _))⟩

end Go.Proofs.Qxb6500474a
