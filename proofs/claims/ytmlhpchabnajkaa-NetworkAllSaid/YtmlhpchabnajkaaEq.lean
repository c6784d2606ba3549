/- two arrays of two numbers, compared -/
import Derived.Test.YtmlhpchabnajkaaCel
import Derived.Laws.StructEq
namespace Go.Proofs.Ytmlhpchabnajkaa
set_option linter.unusedSimpArgs false
set_option linter.unusedVariables false
section
variable {P : Program} (w : World)
theorem run_equalIn_pair (d : Nat) (t e : TypeId) (ht : P.underlying t = some (.array 2 e)) (he : P.underlying e = some (.int .i64)) (hsz : ∀ w, (sizeOf e).run P w = .ok 1 w) (a b a' b' : Int) :
    (Op.equalIn (d + 2) t (.agg #[.int .i64 a, .int .i64 b]) (.agg #[.int .i64 a', .int .i64 b'])).run P w = .ok (a == a' && b == b') w := by
  rw [Op.equalIn]
  simp only [Sem.run_bind, run_underlying ht, Result.andThen_ok, hsz, Std.Legacy.Range.forIn_eq_forIn_range', Std.Legacy.Range.size, Nat.sub_zero, Nat.add_sub_cancel, Nat.div_one]
  have p0 : ∀ (x y : Int), (part e #[.int .i64 x, .int .i64 y] (0 * 1)).run P w = .ok (.int .i64 x) w := fun x y => by simp [part, isAgg, run_underlying he]
  have p1 : ∀ (x y : Int), (part e #[.int .i64 x, .int .i64 y] (1 * 1)).run P w = .ok (.int .i64 y) w := fun x y => by simp [part, isAgg, run_underlying he]
  have pe : ∀ (x y : Int), (Op.equalIn (d + 1) e (.int .i64 x) (.int .i64 y)).run P w = .ok (x == y) w := fun x y => run_equalIn_int w d e .i64 .i64 _ _ he
  have hr : List.range' 0 2 1 = [0, 1] := rfl
  rw [hr]
  simp only [List.forIn_cons, List.forIn_nil, Sem.run_bind, p0, pe, Result.andThen_ok]
  cases h1 : (a == a')
  · simp
  · simp only [Bool.not_true, Bool.false_eq_true, if_false, Sem.run_pure, Result.andThen_ok, Bool.true_and, p1, pe, Sem.run_bind]
    cases h2 : (b == b')
    · simp
    · simp
theorem run_eql_pair (t e : TypeId) (ht : P.underlying t = some (.array 2 e)) (he : P.underlying e = some (.int .i64)) (hsz : ∀ w, (sizeOf e).run P w = .ok 1 w) (a b a' b' : Int) :
    (binOp .eql t (.agg #[.int .i64 a, .int .i64 b]) (.agg #[.int .i64 a', .int .i64 b'])).run P w = .ok (.bool (a == a' && b == b')) w := by
  rw [run_eql_struct, run_equalIn_pair w 9998 t e ht he hsz]
  rfl
theorem run_neq_pair (t e : TypeId) (ht : P.underlying t = some (.array 2 e)) (he : P.underlying e = some (.int .i64)) (hsz : ∀ w, (sizeOf e).run P w = .ok 1 w) (a b a' b' : Int) :
    (binOp .neq t (.agg #[.int .i64 a, .int .i64 b]) (.agg #[.int .i64 a', .int .i64 b'])).run P w = .ok (.bool (!(a == a' && b == b'))) w := by
  rw [run_neq_struct, run_equalIn_pair w 9998 t e ht he hsz]
  rfl
end
end Go.Proofs.Ytmlhpchabnajkaa
