import Derived.Test.Qxb6500469aWd1
namespace Go.Proofs.Qxb6500469a
open Go.RowKit
theorem part_int (w : World) (xs : Array Value) (i : Nat) (x : Int) (h : xs[i]? = some (I x)) : (part 3 xs i).run Try.prog w = .ok (I x) w := by
  simp [part, go_sem, h]
theorem arr_eqIn (w : World) (a b c : Int) (d : Nat) : (Op.equalIn (d + 2) 36 (.agg #[I a, I b, I c]) (.agg #[I a, I b, I c])).run Try.prog w = .ok true w := by
  rw [Op.equalIn]
  simp only [Sem.run_bind, run_underlying Try.underlying36, Result.andThen_ok]
  have hs : ∀ w, (sizeOf 3).run Try.prog w = .ok 1 w := fun _ => by kernel_rfl
  have p0 : ∀ w, (part 3 #[I a, I b, I c] 0).run Try.prog w = .ok (I a) w := fun w => part_int w _ 0 a rfl
  have p1 : ∀ w, (part 3 #[I a, I b, I c] 1).run Try.prog w = .ok (I b) w := fun w => part_int w _ 1 b rfl
  have p2 : ∀ w, (part 3 #[I a, I b, I c] 2).run Try.prog w = .ok (I c) w := fun w => part_int w _ 2 c rfl
  have q : ∀ w x, (Op.equalIn (d + 1) 3 (I x) (I x)).run Try.prog w = .ok true w := fun w x => by
    rw [run_equalIn_int w d _ .i64 .i64 x x Try.underlying3]; simp
  rw [hs]
  simp only [Result.andThen_ok, Nat.mul_one]
  rw [Std.Legacy.Range.forIn_eq_forIn_range']
  simp [Std.Legacy.Range.size, List.range', Sem.run_bind, p0, p1, p2, q]
theorem arr_eql (w : World) (a b c : Int) : (binOp .eql 36 (.agg #[I a, I b, I c]) (.agg #[I a, I b, I c])).run Try.prog w = .ok (.bool true) w := by
  rw [run_eql_struct, arr_eqIn w a b c 9998]
  rfl
theorem arr_guard : Try.prog.eqGuardType Try.prog.depth 36 = false := by kernel_rfl
end Go.Proofs.Qxb6500469a
