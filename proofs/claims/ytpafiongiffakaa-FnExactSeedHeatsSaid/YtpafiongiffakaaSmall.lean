/-
  Proved here: what the small tests on numbers return.
  Conditions: none.
-/
import Derived.Test.YtpafiongiffakaaRows
import Derived.Test.YtpafiongiffakaaBase
namespace Go.Proofs.Ytpafiongiffakaa
open Go.RowKit

theorem spec_l1In {x a b : Int} {w : World} :
    Calls Try.prog 12 #[.int .i64 x, .int .i64 a, .int .i64 b] w fun e w' => e = .returned (.bool (inB x a b)) ∧ w = w' := by
  by_cases h1 : a ≤ x
  · go_enter Try.func12, Try.ntmps12
    go_wp2
    go_ret
    exact ⟨ret_b (by simp [inB, h1]), rfl⟩
  · go_enter Try.func12, Try.ntmps12
    go_wp2
    go_ret
    exact ⟨ret_b (by simp [inB]; omega), rfl⟩

theorem impl_inside {x a b : Int} {w : World} :
    Calls Try.prog 14 #[.int .i64 x, .int .i64 a, .int .i64 b] w fun e w' => e = .returned (.bool (inB x a b)) ∧ w = w' := by
  by_cases h1 : a ≤ x
  · go_enter Try.func14, Try.ntmps14
    go_wp2
    go_ret
    exact ⟨ret_b (by simp [inB, h1]), rfl⟩
  · go_enter Try.func14, Try.ntmps14
    go_wp2
    go_ret
    exact ⟨ret_b (by simp [inB]; omega), rfl⟩

theorem impl_isRunnerNumber {x : Int} {w : World} :
    Calls Try.prog 18 #[.int .i64 x] w fun e w' => e = .returned (.bool (inB x 1 999)) ∧ w = w' := by
  go_enter Try.func18, Try.ntmps18
  go_wp2_with (go_at_call 14; refine (impl_inside).mono ?_; rintro e w1 ⟨rfl, rfl⟩)
  go_ret
  exact ⟨rfl, rfl⟩

end Go.Proofs.Ytpafiongiffakaa
