/-
  Proved here: the program's '!=' of four ints against zeros.
  Conditions: none.
-/
import Derived.Test.YtfnjoinkfghalaaInts
import Derived.Laws.StructEq
namespace Go.Proofs.Ytfnjoinkfghalaa
open Go.RowKit

theorem run_eq4 {a b c d : Int} (w : World) : (Op.equalIn 10000 67 (.agg #[.int .i64 a, .int .i64 b, .int .i64 c, .int .i64 d]) (.agg #[.int .i64 0, .int .i64 0, .int .i64 0, .int .i64 0])).run Try.prog w = .ok ((a == 0) && ((b == 0) && ((c == 0) && (d == 0)))) w := by
  have u3 := Try.underlying3
  have a3 := Try.isAgg3
  have z3 := Try.sizeOf3
  rw [show (10000 : Nat) = 9999 + 1 from rfl, Op.equalIn]
  simp only [Sem.run_bind, run_underlying Try.underlying67, Result.andThen_ok]
  simp only [Std.Legacy.Range.forIn_eq_forIn_range', Std.Legacy.Range.size, Nat.sub_zero, Nat.add_sub_cancel, Nat.div_one, List.range'_succ, List.range'_zero, List.forIn_cons, List.forIn_nil]
  go_simp
  by_cases h1 : a = 0 <;> by_cases h2 : b = 0 <;> by_cases h3 : c = 0 <;> by_cases h4 : d = 0 <;> simp [h1, h2, h3, h4]

end Go.Proofs.Ytfnjoinkfghalaa
