import Derived.Test.Qxb6500475aWork
namespace Go.Proofs.Qxb6500475a
open Go.RowKit Go.Conc
set_option maxHeartbeats 1000000 in
theorem one (i v : Int) (w : World) :
    Calls Try.prog 30 #[I i, I v] w fun e w' => e = .returned (Jb i v) ∧ Below w.heap.size w w' := by
  go_enter Try.func30, Try.ntmps30
  go_wp2
  exact bodyPost_ret (v := Jb i v) (by simp [results, Try.results30, go_sem]) rfl ⟨rfl, by repeat (first | exact Below.refl _ _ | apply Below.drew | (refine Below.alloc ?_ (by simp <;> omega) _) | (refine Below.setCell ?_ (by simp <;> omega) _))⟩
set_option maxHeartbeats 1000000 in
theorem its (i v : Int) (w : World) :
    Calls Try.prog 31 #[I i, I v] w fun e w' => e = .returned (Pt i v) ∧ Below w.heap.size w w' := by
  go_enter Try.func31, Try.ntmps31
  go_wp2
  exact bodyPost_ret (v := Pt i v) (by simp [results, Try.results31, go_sem]) rfl ⟨rfl, by repeat (first | exact Below.refl _ _ | apply Below.drew | (refine Below.alloc ?_ (by simp <;> omega) _) | (refine Below.setCell ?_ (by simp <;> omega) _))⟩
theorem mkc {t e : TypeId} {n b : Nat} {d : ChanDir} (hu : Try.prog.underlying t = some (.chan d e)) (hb : (Try.prog.info? e).map (·.bytes) = some b) (hn : n ≤ 1000) (hbb : b ≤ 1000) (w : World) :
    (Instr.makeChan t (.int .i64 n)).run Try.prog w = .ok (.chan (some w.heap.size)) (w.alloc (.chan n #[] false 0 0 false)) := by
  obtain ⟨i, hi, hb⟩ := Option.map_eq_some_iff.1 hb
  simpa using run_makeChan (P := Try.prog) (w := w) hu hi .i64 n (by omega) (by rw [hb]; have : b * n ≤ 1000 * 1000 := Nat.mul_le_mul hbb hn; have e2 : ((b * n : Nat) : Int) = (b : Int) * n := Int.natCast_mul b n; omega)

theorem eq9 (w : World) : (Op.equalIn 9999 29 (.agg #[I 9, I 0, I 0, I 0]) (.agg #[I 9, I 0, I 0, I 0])).run Try.prog w = .ok true w := by kernel_rfl
theorem eq7 (w : World) : (Op.equalIn 9999 29 (.agg #[I 7, I 0, I 0, I 0]) (.agg #[I 7, I 0, I 0, I 0])).run Try.prog w = .ok true w := by kernel_rfl
end Go.Proofs.Qxb6500475a
