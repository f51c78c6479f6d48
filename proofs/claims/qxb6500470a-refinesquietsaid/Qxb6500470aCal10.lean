import Derived.Test.Qxb6500470aCal9
namespace Go.Proofs.Qxb6500470a
open Go.RowKit

theorem Mac.low {K : Nat → Prop} {w : World} {m p : Nat} {acc : Int} {l : List V} (h : Mac K w m p acc l) (k : Nat) (v : Value) (hv : (macCells p acc)[k]? = some v) : w.cell? ⟨m, k, none⟩ = some v := (h.head.cell k).trans hv

set_option maxRecDepth 100000 in
set_option maxHeartbeats 1000000 in
theorem letter_end (w : World) (m : Nat) (s : List UInt8) (i : Nat) (hs : s.length ≤ 24) (hi : i + 1 = s.length) :
    Calls Try.prog 64 #[ptr m, S s, I i] w fun e w' => e = .returned (.tuple #[I 1, I 11]) ∧ w' = w := by
  have hz := str_size s
  have hz2 : (str s).size ≤ 24 := by omega
  have hj2 : (s.length : Int) ≤ ((i : Int) + 1) := by omega
  have hj3 : ((str s).size : Int) ≤ ((i : Int) + 1) := by omega
  go_enter Try.func64, Try.ntmps64
  go_wp2
  go_ret2
  exact ⟨rfl, rfl⟩

set_option maxRecDepth 100000 in
set_option maxHeartbeats 1000000 in
theorem letter_any (K : Nat → Prop) (w : World) (m p : Nat) (acc : Int) (l : List V) (h : Mac K w m p acc l) (h5 : l.length < 5) (s : List UInt8) (i : Nat) (hs : s.length ≤ 24) (c0 : UInt8) (hc0 : s[i + 1]? = some c0) :
    Calls Try.prog 64 #[ptr m, S s, I i] w fun e w' => e = .returned (.tuple #[I 2, I 0]) ∧ Mac K w' m p acc (l ++ [some (.inr [c0])]) ∧ Kept K w w' := by
  have hz := str_size s
  have hz2 : (str s).size ≤ 24 := by omega
  have hj : i + 1 < s.length := (List.getElem?_eq_some_iff.1 hc0).1
  have hj2 : ¬ (s.length : Int) ≤ ((i : Int) + 1) := by omega
  have hj3 : ¬ ((str s).size : Int) ≤ ((i : Int) + 1) := by omega
  have d0 := h.at0.1
  have hok : ∀ v ∈ l ++ [some (.inr [c0])], okV v := by
    intro v hv
    rcases List.mem_append.1 hv with e | e
    · exact h.ok v e
    · obtain rfl : v = some (.inr [c0]) := by simpa using e
      show 1 ≤ 6
      omega
  have hsl : (str s).extract (i + 1) (i + 2) = str [c0] := by
    obtain ⟨hl, e⟩ := List.getElem?_eq_some_iff.1 hc0
    apply ByteArray.ext
    rw [ByteArray.data_extract]
    show s.toArray.extract (i + 1) (i + 2) = #[c0]
    rw [List.extract_toArray, List.extract_eq_take_drop]
    rw [List.drop_eq_getElem_cons hl, show i + 2 - (i + 1) = 1 from by omega, List.take_succ_cons, List.take_zero, e]
  have hsr : ∀ W, (Instr.slice 9 (S s) (some (.int .i64 ((i : Int) + 1))) (some (.int .i64 ((i : Int) + 2))) none).run Try.prog W = .ok (S [c0]) W := by
    intro W
    rw [run_slice_string (P := Try.prog) W 9 (str s) .i64 .i64 ((i : Int) + 1) ((i : Int) + 2) Try.underlying9 (by omega) (by omega) (by omega)]
    rw [show ((i : Int) + 1).toNat = i + 1 from by omega, show ((i : Int) + 2).toNat = i + 2 from by omega, hsl]
  clear hsl hc0 hj2 hj3
  have q1 : (i : Int) + 1 ≤ (i : Int) + 2 := by omega
  have q2 : (i : Int) + 2 ≤ (s.length : Int) := by omega
  have q3 : (i : Int) + 2 ≤ ((str s).size : Int) := by omega
  have q4 : 0 ≤ (i : Int) + 1 := by omega
  have r1 := wr64 ((i : Int) + 1) (by omega) (by omega)
  have r2 := wr64 ((i : Int) + 2) (by omega) (by omega)
  go_enter Try.func64, Try.ntmps64
  go_wp2_with fail
  go_region_held3 (fun W => W.cell? ⟨m, 0, none⟩ = some (ptr p)) (go_keep) (first | (go_at_call 62; refine (pushS _ _ p _ (by first | exact h.st | exact (h.drewN 1).st) (by rw [List.length_map]; exact h5) [c0] (by simp)).mono ?_; rintro e w2 ⟨rfl, s2, k2⟩; obtain ⟨m2, kk⟩ := (h.drewN 1).turn (l' := l ++ [some (.inr [c0])]) (by rw [map_last]; exact s2) k2 hok; have q0 := m2.at0.1))
  go_wp2
  go_ret2
  exact ⟨rfl, m2, ((Kept.refl K w).drewN 1).trans kk⟩
end Go.Proofs.Qxb6500470a
